/- XdrBack: the law's walk. -/
import Derived.Test.YtafnialikielkaaLawBack
import Derived.IntWalk
namespace Go.Proofs.Ytafnialikielkaa
open Go.RowKit

theorem Sl.cut {α : Type} {f : α → List Value} {n : Nat} (hf : ∀ a, (f a).length = n) {w : World} {lo : Option Addr} {lc : Nat} {l : List α} (h : Sl w n lo l.length lc (l.flatMap f)) (k : Nat) (hk : k ≤ l.length) :
    Sl w n lo (l.take k).length lc ((l.take k).flatMap f) := by
  have hsum : ∀ l : List α, (l.flatMap f).length = l.length * n := by
    intro l
    induction l with
    | nil => simp
    | cons a l ih => rw [List.flatMap_cons, List.length_append, hf, ih, List.length_cons, Nat.add_mul]; omega
  have hpre : l.flatMap f = (l.take k).flatMap f ++ (l.drop k).flatMap f := by rw [← List.flatMap_append, List.take_append_drop]
  have h2 := h.2.1
  refine ⟨hsum _, by simp; omega, h.2.2.1, fun j u hu => h.2.2.2 j u ?_⟩
  rw [hpre, List.getElem?_append_left (List.getElem?_eq_some_iff.1 hu).1]
  exact hu
theorem SlB.cut {w : World} {ao : Option Addr} {cap : Nat} {bs : List UInt8} (h : SlB w ao cap bs) (k : Nat) (hk : k ≤ bs.length) : SlB w ao cap (bs.take k) := by
  have h2 := h.2.1
  refine ⟨by simp, by simp; omega, h.2.2.1, fun j u hu => h.2.2.2 j u ?_⟩
  rw [List.map_take] at hu
  rw [List.getElem?_take] at hu
  split at hu
  · exact hu
  · cases hu

theorem take_snoc {l : List Itm} {k : Nat} (hk : k < l.length) : (l.take (k + 1)).flatMap Itm.bytes = (l.take k).flatMap Itm.bytes ++ (l[k]).bytes := by
  rw [List.take_succ_eq_append_getElem hk, List.flatMap_append]
  simp

/-- The place of the cut. -/
def cutAt (c n : Int) : Int := if Int.tmod c n < 0 then 0 - Int.tmod c n else Int.tmod c n
theorem cutAt_lt {c : Int} {n : Nat} (hn : n ≠ 0) : -(n : Int) < Int.tmod c n ∧ Int.tmod c n < n := by
  have h1 := Int.tmod_lt_of_pos c (b := (n : Int)) (by omega)
  have h2 := Int.tmod_lt_of_pos (-c) (b := (n : Int)) (by omega)
  rw [Int.neg_tmod] at h2
  omega

set_option maxRecDepth 100000 in
set_option maxHeartbeats 4000000 in
theorem xback_any (w : World) (lo : Option Addr) (lc : Nat) (l : List Itm) (c : Int) (hc1 : -9223372036854775808 ≤ c) (hc2 : c ≤ 9223372036854775807) (hl : Sl w 5 lo l.length lc (l.flatMap Itm.cells)) (hlo : ∀ k, rb lo l.length k → k < w.heap.size) (hg : ∀ i ∈ l, i.good w) (hmax : l.length ≤ 9223372036854775807) :
    Calls Try.prog 7 #[.slice lo l.length lc, .int .i64 c] w fun e w' => e = .returned (.bool true) ∧ Below w.heap.size w w' := by
  have HL := hid hl; have HLO := hid hlo; have HG := hid hg; clear hl hlo hg
  have hcap := HL.out.2.1
  go_enter Try.func7, Try.ntmps7
  go_wp2_with (go_at_call 8; refine (known_any _).mono ?_; rintro e w1 ⟨rfl, hm1⟩)
  refine (NewWriter_any _).mono ?_
  rintro e w2 ⟨p, rfl, hp, hw2, hm2⟩
  have hww : Hid (WW w.heap.size (w2.alloc (.cells #[.slice none 0 0] 29)) p none 0 w2.heap.size none 0 [] []) := by
    have := hm1.size; have := hm2.size; have := hw2.lt
    exact ⟨hw2.alloc _, ⟨by simp, by simp, OwnB.nil _, fun h => h⟩, by omega, fun h => h, fun h => h, fun _ h => h.elim, by omega, by omega, fun _ h => h.elim, fun _ h => h.elim, by simp; omega⟩
  have hmods : Hid (Mods (fun k => w.heap.size ≤ k) w (w2.alloc (.cells #[.slice none 0 0] 29))) :=
    ((hm1.mono fun _ _ h => h.elim).trans (hm2.mono fun _ _ h => h.elim)).trans (Mods.alloc _ _ _)
  obtain ⟨q, hq⟩ : ∃ q, q = w2.heap.size := ⟨_, rfl⟩
  rw [← hq] at hww
  clear hm1 hm2 hw2
  go_wp2
  rw [← hq]
  clear hq
  go_loopw [7, 8] (fun n i wr => ∃ (k : Nat) (ao : Option Addr) (cap : Nat) (bo : Option Addr) (bcap : Nat), k ≤ l.length ∧ k ≤ 60 ∧ n = .int .i64 (k : Int) ∧ i = .int .i64 (k : Int) ∧ ((l.take k).flatMap Itm.bytes).length ≤ 3010 * k ∧
      (∀ i ∈ l.take k, i.bs.length ≤ 2000) ∧ WW w.heap.size wr p ao cap q bo bcap ((l.take k).flatMap Itm.bytes) ((l.take k).flatMap Itm.bytes) ∧ Mods (fun k => w.heap.size ≤ k) w wr) (fun _ i _ => l.length - (intOf i).toNat)
  case atStart => exact ⟨0, none, 0, none, 0, by omega, by omega, by go_num, by go_num, by simp, by simp, hww.out, hmods.out⟩
  case round =>
    obtain ⟨k, ao, cap, bo, bcap, hk, hk60, rfl, rfl, hxl, hbs, hw, hm⟩ := hrel
    have HW := hid hw; have HM := hid hm; have HBS := hid hbs; clear hw hm hww hmods hbs
    obtain ⟨xs, hxs⟩ : ∃ x, x = (l.take k).flatMap Itm.bytes := ⟨_, rfl⟩
    rw [← hxs] at HW hxl
    have HXS := hid hxs
    clear hxs
    by_cases hgo : k < l.length ∧ k < 60
    · obtain ⟨hlt, h60⟩ := hgo
      obtain ⟨it, hit⟩ : ∃ i, i = l[k] := ⟨_, rfl⟩
      have hgood := hid (HG.out it (by rw [hit]; simp))
      have HC : Hid (∃ b o, lo = some ⟨b, o, none⟩ ∧ ∀ j u, it.cells[j]? = some u → wr.cell? ⟨b, o + k * 5 + j, none⟩ = some u) := by
        have h1 := (HL.out.below HLO.out HM.out).elem (f := Itm.cells) (fun _ => rfl) (by decide) hlt
        rw [← hit] at h1
        exact h1
      have HNX : Hid ((l.take (k + 1)).flatMap Itm.bytes = xs ++ it.bytes) := by
        have h1 := take_snoc hlt
        rw [← HXS.out, ← hit] at h1
        exact h1
      have HBS2 : Hid (it.bs.length ≤ 2000 → ∀ i ∈ l.take (k + 1), i.bs.length ≤ 2000) := fun h i hi => by
        rw [List.take_succ_eq_append_getElem hlt] at hi
        rcases List.mem_append.1 hi with h1 | h1
        · exact HBS.out i h1
        · rw [List.mem_singleton.1 h1, ← hit]; exact h
      obtain ⟨kind, N, V, On, io, ic, bs⟩ := it
      obtain ⟨b, o, rfl, hcell⟩ := HC.out
      have c0 : wr.cell? ⟨b, o + k * 5, none⟩ = some (.int .i64 kind) := hcell 0 _ rfl
      have c1 := hcell 1 _ rfl
      have c2 := hcell 2 _ rfl
      have c3 := hcell 3 _ rfl
      have c4 := hcell 4 _ rfl
      clear hcell HC hit HL HLO HG
      by_cases hbig : 2000 < bs.length
      · go_wp2
        go_ret
        exact ⟨rfl, HM.out.below (fun k hk h => by omega) (Nat.le_refl _)⟩
      · go_wp2_with fail
        refine (write_any w.heap.size wr p ao cap q bo bcap xs xs HW.out kind N V On io ic bs (hgood.out.sl.below hgood.out.lt HM.out) hgood.out.lt hgood.out.V (by omega) (by omega) (by omega)).mono ?_
        rintro e w3 ⟨ao1, cap1, bo1, bcap1, rfl, hw3, hm3⟩
        have hxl1 : Hid (((l.take (k + 1)).flatMap Itm.bytes).length ≤ 3010 * (k + 1)) := by
          have := itemBytes_length kind V On bs
          rw [HNX.out, List.length_append]; show xs.length + (itemBytes kind V On bs).length ≤ _; omega
        have hw3' : Hid (WW w.heap.size w3 p ao1 cap1 q bo1 bcap1 ((l.take (k + 1)).flatMap Itm.bytes) ((l.take (k + 1)).flatMap Itm.bytes)) := by
          rw [HNX.out]; exact hw3
        have HM3 := hid (HM.out.trans hm3)
        have hb2 := hid (HBS2.out (by show bs.length ≤ 2000; omega))
        clear hw3 hm3 c0 c1 c2 c3 c4
        go_wp2
        go_roundw
        case rel => exact ⟨k + 1, ao1, cap1, bo1, bcap1, by omega, by omega, by go_num, by go_num, hxl1.out, hb2.out, hw3'.out, HM3.out⟩
        case measure => simp [intOf]; omega
    · have hbd : (k : Int) < l.length ∧ ¬ (k : Int) < 60 ∨ ¬ (k : Int) < l.length := by omega
      have hxlen : xs.length ≤ 1000000 := by omega
      have hfour : Hid (xs.length % 4 = 0) := by rw [HXS.out]; exact items_four _
      have hfull : Hid (backGo xs (l.take k) 0 = true) := by
        refine backGo_full (l.take k) xs [] [] (fun i hi => ?_) (by rw [HXS.out]; rfl)
        have := HBS.out i hi
        exact ⟨(HG.out i (List.mem_of_mem_take hi)).V, by omega⟩
      have hcutb : Hid (∀ m, m < xs.length → backGo (xs.take m) (l.take k) 0 = false) := by
        intro m hm
        rw [HXS.out] at hm ⊢
        refine backGo_cut (l.take k) _ [] m (fun i hi => ?_) hm rfl
        have := HBS.out i hi
        exact ⟨(HG.out i (List.mem_of_mem_take hi)).V, by omega⟩
      have hlk : (l.take k).length = k := by simp; omega
      have hslk : Hid (∀ w', Mods (fun k => w.heap.size ≤ k) w w' → Sl w' 5 lo k lc ((l.take k).flatMap Itm.cells)) := fun w' hm => by
        have h1 := (HL.out.below HLO.out hm).cut (f := Itm.cells) (fun _ => rfl) k hk
        rwa [hlk] at h1
      have hgk : Hid (∀ w', Mods (fun k => w.heap.size ≤ k) w w' → ∀ i ∈ l.take k, i.good w' ∧ i.bs.length ≤ 1000000000) := fun w' hm i hi => by
        have h1 := HG.out i (List.mem_of_mem_take hi)
        have h2 := HBS.out i hi
        exact ⟨⟨h1.sl.below h1.lt hm, fun k hk => Nat.lt_of_lt_of_le (h1.lt k hk) hm.size, h1.V⟩, by omega⟩
      have hlok : Hid (∀ w', Mods (fun k => w.heap.size ≤ k) w w' → ∀ j, rb lo k j → j < w'.heap.size) := fun w' hm j hj => Nat.lt_of_lt_of_le (HLO.out j ⟨by have := hj.1; omega, hj.2⟩) hm.size
      have hkmax : k ≤ 9223372036854775807 := by omega
      have HBK : Hid (∀ (w' : World) (ao' : Option Addr) (cap' : Nat) (ys : List UInt8), Mods (fun k => w.heap.size ≤ k) w w' → SlB w' ao' cap' ys → ys.length ≤ 1000000 →
          Calls Try.prog 30 #[.slice ao' ys.length cap', .slice lo k lc] w' fun e w'' => e = .returned (.bool (backGo ys (l.take k) 0)) ∧ Mods (fun _ => False) w' w'') := fun w' ao' cap' ys hm hs hy => by
        have h1 := back_any w' ao' cap' ys hs (by omega) lo lc (l.take k) (by rw [hlk]; exact hslk.out w' hm) (by rw [hlk]; exact hlok.out w' hm) (hgk.out w' hm) (by rw [hlk]; exact hkmax)
        rwa [hlk] at h1
      clear hslk hgk hlok hlk HL HLO HG HBS HXS
      have hkl : (k : Int) ≤ lc := by omega
      rcases hbd with ⟨hb1, hb2⟩ | hb1
      all_goals
        go_wp2_with fail
        refine (Done_any p ao cap xs _ HW.out.one (by omega)).mono ?_
        rintro e w3 ⟨ao3, cap3, rfl, ho3, hg3⟩
        have ho3' := hid ho3
        have hm3 := hid (HM.out.trans (hg3.mods.mono fun _ _ h => h.elim))
        have h4 := hfour.out
        clear ho3 hg3
        go_wp2_with fail
        refine (HBK.out _ _ _ _ hm3.out ho3'.out.sl (by omega)).mono ?_
        rintro e w4 ⟨rfl, hm4⟩
        rw [hfull.out]
        have hm4' := hid (hm3.out.trans (hm4.mono fun _ _ h => h.elim))
        have hs4 := hid (ho3'.out.sl.keep hm4 fun _ _ h => h)
        have hcap3 := ho3'.out.sl.2.1
        clear hm4 ho3' h4
        by_cases hz : xs.length = 0
        · go_wp2
          go_ret
          exact ⟨rfl, hm4'.out.below (fun k hk h => by omega) (Nat.le_refl _)⟩
        · have hpos : 0 < (xs.length : Int) := by omega
          have hnz : ¬ ((xs.length : Int) = 0) := by omega
          have ht := cutAt_lt (c := c) hz
          have HB2 : Hid (∀ (m : Nat), m < xs.length → ∀ w', Mods (fun _ => False) w4 w' → Calls Try.prog 30 #[.slice ao3 m cap3, .slice lo k lc] w' fun e w'' => e = .returned (.bool false) ∧ Mods (fun _ => False) w' w'') := fun m hm w' hw' => by
            have h1 := HBK.out w' ao3 cap3 (xs.take m) (hm4'.out.trans (hw'.mono fun _ _ h => h.elim)) ((hs4.out.keep hw' fun _ _ h => h).cut m (by omega)) (by simp; omega)
            rw [hcutb.out m hm, show (xs.take m).length = m by simp; omega] at h1
            exact h1
          clear HBK hcutb hfull hfour
          obtain ⟨t, hteq⟩ : ∃ t, t = Int.tmod c xs.length := ⟨_, rfl⟩
          have hteq2 : Int.tmod c xs.length = t := hteq.symm
          rw [← hteq] at ht
          clear hteq
          by_cases hneg : t < 0
          · obtain ⟨m, hm⟩ : ∃ m : Nat, 0 - t = (m : Int) := ⟨(0 - t).toNat, by omega⟩
            have hmlt : m < xs.length := by omega
            have hH := hid (HB2.out m hmlt)
            have hwr : IntKind.i64.wrap (0 - t) = (m : Int) := by rw [hm]; exact IntWalk.i64_in _ (by omega)
            have hmc : (m : Int) ≤ cap3 := by omega
            go_wp2_with fail
            go_region_with (first | (go_at_call 30; go_loud (refine (hH.out w4.drew (Mods.drew _ _)).mono ?_; rintro e w5 ⟨rfl, hm5⟩; have hm5' := hid ((Mods.drew (fun _ => False) w4).trans hm5); clear hm5)))
            all_goals
              go_wp2
              go_ret
              exact ⟨rfl, (hm4'.out.trans (hm5'.out.mono fun _ _ h => h.elim)).below (fun k hk h => by omega) (Nat.le_refl _)⟩
          · obtain ⟨m, hm⟩ : ∃ m : Nat, t = (m : Int) := ⟨t.toNat, by omega⟩
            have hmlt : m < xs.length := by omega
            have hH := hid (HB2.out m hmlt)
            subst hm
            have hmc : (m : Int) ≤ cap3 := by omega
            go_wp2_with fail
            go_region_with (first | (go_at_call 30; go_loud (refine (hH.out w4.drew (Mods.drew _ _)).mono ?_; rintro e w5 ⟨rfl, hm5⟩; have hm5' := hid ((Mods.drew (fun _ => False) w4).trans hm5); clear hm5)))
            all_goals
              go_wp2
              go_ret
              exact ⟨rfl, (hm4'.out.trans (hm5'.out.mono fun _ _ h => h.elim)).below (fun k hk h => by omega) (Nat.le_refl _)⟩

end Go.Proofs.Ytafnialikielkaa
