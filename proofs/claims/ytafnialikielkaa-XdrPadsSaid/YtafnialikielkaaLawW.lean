/- XdrWrites: the law's walk. -/
import Derived.Test.YtafnialikielkaaXdrW
import Derived.BigQuiet
import Derived.Deep.RegionWith
namespace Go.Proofs.Ytafnialikielkaa
open Go.RowKit

structure Itm where
  kind : Int
  N : Int
  V : Int
  On : Bool
  io : Option Addr
  ic : Nat
  bs : List UInt8
def Itm.cells (i : Itm) : List Value := [.int .i64 i.kind, .int .i64 i.N, .int .u64 i.V, .bool i.On, .slice i.io i.bs.length i.ic]
structure Itm.good (w : World) (i : Itm) : Prop where
  sl : SlB w i.io i.ic i.bs
  lt : ∀ k, rb i.io i.bs.length k → k < w.heap.size
  V : 0 ≤ i.V ∧ i.V < 18446744073709551616
def Itm.bytes (i : Itm) : List UInt8 := itemBytes i.kind i.V i.On i.bs

theorem itemBytes_length (kind V : Int) (On : Bool) (bs : List UInt8) : (itemBytes kind V On bs).length ≤ bs.length + 8 := by
  have h1 := row_length bs
  have h2 := padded_length bs
  unfold itemBytes
  split
  · simp [be_length]
  · split
    · simp [be_length]
    · split
      · simp [be_length]
      · split <;> omega

theorem flat_at {α : Type} (f : α → List Value) (n : Nat) (hf : ∀ a, (f a).length = n) (l : List α) (k j : Nat) (hk : k < l.length) (hj : j < n) : (l.flatMap f)[k * n + j]? = (f l[k])[j]? := by
  induction l generalizing k with
  | nil => simp at hk
  | cons a l ih =>
    rw [List.flatMap_cons]
    cases k with
    | zero => simp [List.getElem?_append_left (show j < (f a).length by rw [hf]; exact hj)]
    | succ k =>
      rw [List.getElem?_append_right (by rw [hf, Nat.add_mul]; omega), hf]
      rw [show (k + 1) * n + j - n = k * n + j by rw [Nat.add_mul]; omega]
      simp at hk
      simpa using ih k hk

/-- The cells of element k. -/
theorem Sl.elem {α : Type} {f : α → List Value} {n : Nat} (hf : ∀ a, (f a).length = n) (hn : 0 < n) {w : World} {lo : Option Addr} {lc : Nat} {l : List α} (h : Sl w n lo l.length lc (l.flatMap f)) {k : Nat} (hk : k < l.length) :
    ∃ b o, lo = some ⟨b, o, none⟩ ∧ ∀ j u, (f l[k])[j]? = some u → w.cell? ⟨b, o + k * n + j, none⟩ = some u := by
  have hne : l.flatMap f ≠ [] := by
    intro h0
    have h1 := flat_at f n hf l k 0 hk hn
    rw [h0] at h1
    have : 0 < (f l[k]).length := by rw [hf]; exact hn
    simp [List.getElem?_eq_getElem this] at h1
  obtain ⟨b, o, rfl, hc⟩ := h.form hne
  refine ⟨b, o, rfl, fun j u hu => ?_⟩
  have hj : j < n := by
    rcases Nat.lt_or_ge j n with h | h
    · exact h
    · rw [List.getElem?_eq_none (by rw [hf]; exact h)] at hu; cases hu
  rw [Nat.add_assoc]
  exact hc _ u (by rw [flat_at f n hf l k j hk hj]; exact hu)

set_option maxHeartbeats 1000000 in
theorem writes_any (w : World) (lo : Option Addr) (lc : Nat) (l : List Itm) (hl : Sl w 5 lo l.length lc (l.flatMap Itm.cells)) (hlo : ∀ k, rb lo l.length k → k < w.heap.size) (hg : ∀ i ∈ l, i.good w) (hmax : l.length ≤ 9223372036854775807) :
    Calls Try.prog 3 #[.slice lo l.length lc] w fun e w' => e = .returned (.bool true) ∧ Below w.heap.size w w' := by
  have HL := hid hl; have HLO := hid hlo; have HG := hid hg; clear hl hlo hg
  go_enter Try.func3, Try.ntmps3
  go_wp2_with (go_at_call 8; refine (known_any _).mono ?_; rintro e w1 ⟨rfl, hm1⟩)
  refine (NewWriter_any _).mono ?_
  rintro e w2 ⟨p, rfl, hp, hw2, hm2⟩
  have hww : Hid (WW w.heap.size (w2.alloc (.cells #[.slice none 0 0] 29)) p none 0 w2.heap.size none 0 [] []) := by
    have := hm1.size; have := hm2.size; have := hw2.lt
    exact ⟨hw2.alloc _, ⟨by simp, by simp, OwnB.nil _, fun h => h⟩, by omega, fun h => h, fun h => h, fun _ h => h.elim, by omega, by omega, fun _ h => h.elim, fun _ h => h.elim, by simp; omega⟩
  have hmods : Hid (Mods (fun k => w.heap.size ≤ k) w (w2.alloc (.cells #[.slice none 0 0] 29))) :=
    ((hm1.mono fun _ _ h => h.elim).trans (hm2.mono fun _ _ h => h.elim)).trans (Mods.alloc _ _ _)
  obtain ⟨q, hq⟩ : ∃ q, q = w2.heap.size := ⟨_, rfl⟩
  rw [← hq] at hww
  clear hm1 hm2 hw2
  go_wp2
  rw [← hq]
  clear hq
  go_loopw [5] (fun i wr => ∃ (k : Nat) (ao : Option Addr) (cap : Nat) (bo : Option Addr) (bcap : Nat) (xs : List UInt8), k ≤ l.length ∧ k ≤ 60 ∧ i = .int .i64 (k : Int) ∧ xs.length ≤ 3010 * k ∧
      WW w.heap.size wr p ao cap q bo bcap xs xs ∧ Mods (fun k => w.heap.size ≤ k) w wr) (fun i _ => l.length - (intOf i).toNat)
  case atStart => exact ⟨0, none, 0, none, 0, [], by omega, by omega, by go_num, by simp, hww.out, hmods.out⟩
  case round =>
    obtain ⟨k, ao, cap, bo, bcap, xs, hk, hk60, rfl, hxl, hw, hm⟩ := hrel
    have HW := hid hw; have HM := hid hm; clear hw hm hww hmods
    by_cases hlt : k < l.length
    · by_cases h60 : k < 60
      · obtain ⟨it, hit⟩ : ∃ i, i = l[k] := ⟨_, rfl⟩
        have hgood := hid (HG.out it (by rw [hit]; simp))
        have HC : Hid (∃ b o, lo = some ⟨b, o, none⟩ ∧ ∀ j u, it.cells[j]? = some u → wr.cell? ⟨b, o + k * 5 + j, none⟩ = some u) := by
          have h1 := (HL.out.below HLO.out HM.out).elem (f := Itm.cells) (fun _ => rfl) (by decide) hlt
          rw [← hit] at h1
          exact h1
        obtain ⟨kind, N, V, On, io, ic, bs⟩ := it
        obtain ⟨b, o, rfl, hcell⟩ := HC.out
        have c0 : wr.cell? ⟨b, o + k * 5, none⟩ = some (.int .i64 kind) := hcell 0 _ rfl
        have c1 := hcell 1 _ rfl
        have c2 := hcell 2 _ rfl
        have c3 := hcell 3 _ rfl
        have c4 := hcell 4 _ rfl
        clear hcell HC hit HL HLO HG
        by_cases hbig : 3000 < bs.length
        · go_wp2
          go_ret
          exact ⟨rfl, HM.out.below (fun k hk h => by omega) (Nat.le_refl _)⟩
        · go_wp2_with fail
          refine (write_any w.heap.size wr p ao cap q bo bcap xs xs HW.out kind N V On io ic bs (hgood.out.sl.below hgood.out.lt HM.out) hgood.out.lt hgood.out.V (by omega) (by omega) (by omega)).mono ?_
          rintro e w3 ⟨ao1, cap1, bo1, bcap1, rfl, hw3, hm3⟩
          obtain ⟨xs1, hxs1⟩ : ∃ c, c = xs ++ itemBytes kind V On bs := ⟨_, rfl⟩
          have hxl1 : xs1.length ≤ 3010 * (k + 1) := by
            have := itemBytes_length kind V On bs
            rw [hxs1, List.length_append]; omega
          rw [← hxs1] at hw3
          clear hxs1
          have HW3 := hid hw3
          have HM3 := hid (HM.out.trans hm3)
          have HS : Hid (∀ w', Mods (fun _ => False) w3 w' → w'.cell? ⟨q, 0, none⟩ = some (.slice bo1 xs1.length bcap1) ∧ (convert 27 9 (.slice bo1 xs1.length bcap1)).run Try.prog w' = .ok (.string (str xs1)) w') := fun w' hm =>
            have h2 := hw3.two.keep hm (fun h => h) (fun _ _ h => h)
            ⟨h2.cell, run_conv h2.own.sl⟩
          clear hw3 hm3
          go_wp2_with fail
          have hcq := (HS.out w3 (Mods.refl _ _)).1
          have hcv := (HS.out w3.drew (Mods.drew _ _)).2
          go_region_with (first | (go_at_call 11; refine (Done_any p ao1 cap1 xs1 _ (HW3.out.new (Mods.drew _ _)).one (by omega)).mono ?_; rintro e w4 ⟨ao4, cap4, rfl, ho4, hg4⟩; have hm4 : Mods (fun _ => False) w3 w4 := (Mods.drew _ _).trans hg4.mods; have hcv4 := run_conv ho4.sl; have hcv5 := (HS.out w4 hm4).2; have hcq5 := (HS.out w4 hm4).1))
          all_goals
            have HM4 := hid (HM3.out.trans (hm4.mono fun _ _ h => h.elim))
            have HW4 := hid (HW3.out.new hm4)
            clear hcq hcv hcq5 hcv5 hcv4 hm4 hg4 ho4
            go_wp2
            go_roundw
            case rel => exact ⟨k + 1, ao1, cap1, bo1, bcap1, xs1, by omega, by omega, by go_num, hxl1, HW4.out, HM4.out⟩
            case measure => simp [intOf]; omega
      · go_wp2
        go_ret
        exact ⟨rfl, HM.out.below (fun k hk h => by omega) (Nat.le_refl _)⟩
    · go_wp2
      go_ret
      exact ⟨rfl, HM.out.below (fun k hk h => by omega) (Nat.le_refl _)⟩

end Go.Proofs.Ytafnialikielkaa
