/- num's functions. -/
import Derived.Test.YtanknjpcgceccaaRows
import Derived.Test.YtanknjpcgceccaaBase
namespace Go.Proofs.Ytanknjpcgceccaa
open Go.RowKit

set_option maxHeartbeats 400000 in
theorem num_size_yes (n : Int) (w : World) (h : n = 4 ∨ n = 8) :
    Calls Try.prog 105 #[.int .i64 n] w fun e w' => e = .returned (.bool true) ∧ w = w' := by
  rcases h with rfl | rfl
  all_goals
    go_enter Try.func105, Try.ntmps105
    go_wp2
    go_ret
    exact ⟨rfl, rfl⟩

set_option maxHeartbeats 400000 in
theorem ref_size_yes (n : Int) (w : World) (h : n = 4 ∨ n = 8) :
    Calls Try.prog 99 #[.int .i64 n] w fun e w' => e = .returned (.bool true) ∧ w = w' := by
  rcases h with rfl | rfl
  all_goals
    go_enter Try.func99, Try.ntmps99
    go_wp2
    go_ret
    exact ⟨rfl, rfl⟩

set_option maxHeartbeats 400000 in
theorem num_fits_yes (n : Int) (ao : Option Addr) (vs : List Int) (cap : Nat) (w : World) (h : n = 8 ∨ n = 4 ∧ ∀ v ∈ vs, 0 ≤ v ∧ v < 4294967296)
    (hr : Sl w 1 ao vs.length cap (vs.map (Value.int .u64))) (hlen : vs.length ≤ 20000000) :
    Calls Try.prog 103 #[.int .i64 n, .slice ao vs.length cap] w fun e w' => e = .returned (.bool true) ∧ w = w' := by
  have hn : n = 4 ∨ n = 8 := by rcases h with h | h; exact .inr h; exact .inl h.1
  have HN := hid hn; have HH := hid h; clear h hn
  go_enter Try.func103, Try.ntmps103
  go_wp2_with (go_at_call 105; refine (num_size_yes _ _ HN.out).mono ?_; rintro e w' ⟨rfl, rfl⟩)
  go_loop [12] (fun i => ∃ k : Nat, k ≤ vs.length ∧ i = .int .i64 k) (fun i => vs.length - (intOf i).toNat)
  case atStart => exact ⟨0, Nat.zero_le _, rfl⟩
  case round =>
    obtain ⟨k, hk, rfl⟩ := hrel
    by_cases hlt : k < vs.length
    · obtain ⟨b, o, rfl, hc⟩ := hr.2.2.2 k (.int .u64 vs[k]) (by simp [hlt])
      rcases HH.out with rfl | ⟨rfl, hb⟩
      · clear hr HN HH
        go_wp2
        go_round
        case rel => exact ⟨k + 1, by omega, by go_num⟩
        case measure => simp [intOf]; omega
      · have hb2 := hb vs[k] (by simp)
        clear hr HN HH hb
        go_wp2
        go_round
        case rel => exact ⟨k + 1, by omega, by go_num⟩
        case measure => simp [intOf]; omega
    · clear hr HN HH
      go_wp2
      go_ret
      exact ⟨rfl, rfl⟩


def be (n : Nat) (v : Int) : List UInt8 := (List.range n).map fun j => u8 (v / 2 ^ (8 * (n - 1 - j)))
theorem be_step (n : Nat) (x : Int) (k : Nat) (hk : k < n) : (be n x).take (k + 1) = (be n x).take k ++ [u8 (x / 2 ^ (8 * (n - 1 - k)))] := by
  have h : k < (be n x).length := by simp [be, hk]
  rw [List.take_succ_eq_append_getElem h]
  simp [be]
theorem be_length (n : Nat) (x : Int) : (be n x).length = n := by simp [be]

/-- What is handed back is a slice of the call's own, or the one that came in, grown. -/
def GrowB (w : World) (ao : Option Addr) (bs : List UInt8) (e : Ending) (w' : World) : Prop :=
  ∃ ao' cap', e = .returned (.slice ao' bs.length cap') ∧ OwnB w' ao' cap' bs ∧ Grew w ao w' ao'

set_option maxHeartbeats 400000 in
theorem High_any (n : Nat) (x : Int) (ao : Option Addr) (cap : Nat) (bs : List UInt8) (w : World) (hn : n = 4 ∨ n = 8) (hx : 0 ≤ x ∧ x < 18446744073709551616)
    (hown : OwnB w ao cap bs) (hlen : bs.length ≤ 20000000) :
    Calls Try.prog 68 #[.slice ao bs.length cap, .int .i64 n, .int .u64 x] w (GrowB w ao (bs ++ be n x)) := by
  have hn1 : 1 ≤ n := by omega
  have hn8 : n ≤ 8 := by omega
  have HX := hid hx; clear hn hx
  go_enter Try.func68, Try.ntmps68
  go_wp2
  go_loopw [0, 7] (fun v i wr => ∃ (k : Nat) (ao' : Option Addr) (cap' : Nat) (cs : List UInt8), k ≤ n ∧ i = .int .i64 ((n : Int) - 1 - (k : Int)) ∧ v = .slice ao' cs.length cap' ∧ Hid (cs = bs ++ (be n x).take k) ∧
      cs.length ≤ bs.length + 8 ∧ OwnB wr ao' cap' cs ∧ Grew w ao wr ao') (fun _ i _ => (intOf i + 1).toNat)
  case atStart => exact ⟨0, ao, cap, bs, by omega, by go_num, rfl, by simp [Hid], by omega, hown, Grew.refl _ _⟩
  case round =>
    obtain ⟨k, ao', cap', cs, hk, rfl, rfl, hcs, hl, hown', hg⟩ := hrel
    by_cases hlt : k < n
    · go_wp2_with (at_builtin; refine wpList_appB1 _ rfl _ _ rfl _ _ _ cs rfl rfl (hown'.alloc _) wr.heap.size _ rfl (cell_one _ _ _) ?c2 ?c3 ?_)
      case c2 => omega
      case c3 => omega
      intro ao2 cap2 cs2 w2 hcs2 hown2 hg2
      have hk2 : Hid (cs2 = bs ++ (be n x).take (k + 1)) := by
        rw [hcs2.out, hcs.out, be_step n x k hlt, u8_mod, List.append_assoc]; rfl
      have hl2 : cs2.length ≤ bs.length + 8 := by rw [hk2.out]; simp [be_length]; omega
      have hg3 := (hg.alloc _).trans hg2
      clear hcs2 hg2 hown' hg hcs hl
      go_wp2
      go_roundw
      case rel => exact ⟨k + 1, ao2, cap2, cs2, by omega, by go_num, rfl, hk2, hl2, hown2, hg3⟩
      case measure => simp [intOf]; omega
    · have hcs2 : cs = bs ++ be n x := by rw [hcs.out, List.take_of_length_le (by rw [be_length]; omega)]
      go_wp2
      go_ret
      subst hcs2
      exact ⟨ao', cap', rfl, hown', hg⟩

set_option maxHeartbeats 400000 in
theorem Noughts_any (n : Nat) (ao : Option Addr) (cap : Nat) (bs : List UInt8) (w : World) (hn : n ≤ 20000000) (hown : OwnB w ao cap bs) (hlen : bs.length ≤ 20000000) :
    Calls Try.prog 100 #[.slice ao bs.length cap, .int .i64 n] w (GrowB w ao (bs ++ List.replicate n 0)) := by
  go_enter Try.func100, Try.ntmps100
  go_wp2
  go_loopw [0, 5] (fun v i wr => ∃ (k : Nat) (ao' : Option Addr) (cap' : Nat) (cs : List UInt8), k ≤ n ∧ i = .int .i64 (k : Int) ∧ v = .slice ao' cs.length cap' ∧ Hid (cs = bs ++ List.replicate k 0) ∧
      cs.length ≤ bs.length + n ∧ OwnB wr ao' cap' cs ∧ Grew w ao wr ao') (fun _ i _ => n - (intOf i).toNat)
  case atStart => exact ⟨0, ao, cap, bs, by omega, by go_num, rfl, by simp [Hid], by omega, hown, Grew.refl _ _⟩
  case round =>
    obtain ⟨k, ao', cap', cs, hk, rfl, rfl, hcs, hl, hown', hg⟩ := hrel
    by_cases hlt : k < n
    · go_wp2_with (at_builtin; refine wpList_appB1 _ rfl _ _ rfl _ _ _ cs rfl rfl (hown'.alloc _) wr.heap.size _ rfl (cell_one _ _ _) ?c2 ?c3 ?_)
      case c2 => omega
      case c3 => omega
      intro ao2 cap2 cs2 w2 hcs2 hown2 hg2
      have hk2 : Hid (cs2 = bs ++ List.replicate (k + 1) 0) := by
        rw [hcs2.out, hcs.out, List.replicate_succ', List.append_assoc]; rfl
      have hl2 : cs2.length ≤ bs.length + n := by rw [hk2.out]; simp; omega
      have hg3 := (hg.alloc _).trans hg2
      clear hcs2 hg2 hown' hg hcs hl
      go_wp2
      go_roundw
      case rel => exact ⟨k + 1, ao2, cap2, cs2, by omega, by go_num, rfl, hk2, hl2, hown2, hg3⟩
      case measure => simp [intOf]; omega
    · have hkn : k = n := by omega
      have hcs2 : cs = bs ++ List.replicate n 0 := by rw [hcs.out, hkn]
      clear hkn
      go_wp2
      go_ret
      subst hcs2
      exact ⟨ao', cap', rfl, hown', hg⟩

/-- A new slice of the call's own; nothing old has changed. -/
def NewB (w : World) (bs : List UInt8) (e : Ending) (w' : World) : Prop :=
  ∃ ao' cap', e = .returned (.slice ao' bs.length cap') ∧ OwnB w' ao' cap' bs ∧ Grew w none w' ao'
def NewB0 (w : World) (bs : List UInt8) (e : Ending) (w' : World) : Prop :=
  ∃ ao' cap', e = .returned (.tuple #[.slice ao' bs.length cap', .int .i64 0]) ∧ OwnB w' ao' cap' bs ∧ Grew w none w' ao'

def bes (n : Nat) (vs : List Int) : List UInt8 := vs.flatMap (be n)
theorem bes_snoc (n : Nat) (vs : List Int) (v : Int) : bes n (vs ++ [v]) = bes n vs ++ be n v := by simp only [bes, List.flatMap_append, List.flatMap_cons, List.flatMap_nil, List.append_nil]
theorem bes_length (n : Nat) (vs : List Int) : (bes n vs).length = n * vs.length := by
  induction vs with
  | nil => simp [bes]
  | cons v vs ih => simp only [bes, List.flatMap_cons, List.length_append, be_length, List.length_cons] at *; rw [ih, Nat.mul_add]; omega

set_option maxHeartbeats 400000 in
theorem PutBe_any (n : Nat) (lo : Option Addr) (lc : Nat) (vs : List Int) (ao : Option Addr) (cap : Nat) (bs : List UInt8) (w : World) (hn : n = 8 ∨ n = 4 ∧ ∀ v ∈ vs, 0 ≤ v ∧ v < 4294967296)
    (hvs : ∀ v ∈ vs, 0 ≤ v ∧ v < 18446744073709551616)
    (hl : Sl w 1 lo vs.length lc (vs.map (Value.int .u64))) (hb : SlB w ao cap bs) (hlen : bs.length ≤ 20000000) (hvlen : vs.length ≤ 1000) :
    Calls Try.prog 96 #[.slice ao bs.length cap, .int .i64 n, .slice lo vs.length lc] w (NewB0 w (bs ++ bes n vs)) := by
  have hn4 : n = 4 ∨ n = 8 := by rcases hn with h | h; exact .inr h; exact .inl h.1
  have hn1 : 1 ≤ n := by omega
  have hn8 : n ≤ 8 := by omega
  have hfit := num_fits_yes n lo vs lc w (by rcases hn with h | h; exact .inl (by omega); exact .inr ⟨by omega, h.2⟩) hl (by omega)
  have HF := hid hfit; have HV := hid hvs; have HL := hid hl; have HB := hid hb; clear hn hn4 hfit hvs hl hb
  go_enter Try.func96, Try.ntmps96
  go_wp2_with (first | (go_at_call 103; refine HF.out.mono ?_; rintro e w' ⟨rfl, rfl⟩) | (at_builtin; refine wpList_appB _ rfl _ _ rfl none 0 0 [] rfl rfl (OwnB.nil _) _ _ _ bs rfl rfl HB.out ?c1 ?_))
  case c1 => simp; omega
  intro ao2 cap2 cs2 w2 hcs2 hown2 hg2
  have hl2 : cs2.length ≤ bs.length := by rw [hcs2.out]; simp
  have HN1 : bs.length ≤ 20000000 := hlen
  have hc0 : Hid (cs2 = bs) := by rw [hcs2.out]; rfl
  clear hcs2
  go_wp2
  go_loopw [8, 20] (fun v i wr => ∃ (k : Nat) (ao' : Option Addr) (cap' : Nat) (cs : List UInt8), k ≤ vs.length ∧ i = .int .i64 (k : Int) ∧ v = .slice ao' cs.length cap' ∧ Hid (cs = bs ++ bes n (vs.take k)) ∧
      OwnB wr ao' cap' cs ∧ Grew w none wr ao') (fun _ i _ => vs.length - (intOf i).toNat)
  case atStart => exact ⟨0, ao2, cap2, cs2, by omega, by go_num, rfl, by rw [hc0.out]; simp [bes, Hid], hown2, hg2⟩
  case round =>
    obtain ⟨k, ao', cap', cs, hk, rfl, rfl, hcs, hown', hg⟩ := hrel
    have hcl : cs.length ≤ 20000000 + 8 * k := by
      rw [hcs.out, List.length_append, bes_length, List.length_take]
      have : n * min k vs.length ≤ 8 * k := Nat.mul_le_mul hn8 (Nat.min_le_left _ _)
      omega
    by_cases hlt : k < vs.length
    · have HC : Hid (∃ b o, lo = some ⟨b, o, none⟩ ∧ wr.cell? ⟨b, o + k, none⟩ = some (.int .u64 vs[k])) := by
        obtain ⟨b, o, h1, h2⟩ := (HL.out.keep hg.mods (fun _ _ h => h)).at (j := k) (by simpa using hlt)
        exact ⟨b, o, h1, by simpa using h2⟩
      have HX := hid (HV.out vs[k] (by simp))
      have HS : Hid (bes n (vs.take (k + 1)) = bes n (vs.take k) ++ be n vs[k]) := by
        rw [List.take_succ_eq_append_getElem hlt]; exact bes_snoc _ _ _
      obtain ⟨b, o, rfl, hcell⟩ := HC.out
      clear HL HV HF HB HC hg2 hown2 hc0
      obtain ⟨x, hx⟩ : ∃ x, x = vs[k] := ⟨_, rfl⟩
      have hx' := hid hx
      rw [← hx] at hcell HX HS
      clear hx hx'
      go_wp2
      obtain ⟨wo, hwo⟩ : ∃ wo : World, wo = wr := ⟨_, rfl⟩
      obtain ⟨cs0, hcs0⟩ : ∃ c, c = cs := ⟨_, rfl⟩
      have hcs1 : Hid (cs0 = bs ++ bes n (vs.take k)) := by rw [hcs0]; exact hcs
      have hcl1 : cs0.length ≤ 20000000 + 8 * k := by rw [hcs0]; exact hcl
      clear hwo
      go_loopw [8, 11] (fun v i wr => ∃ (t : Nat) (ao' : Option Addr) (cap' : Nat) (cs : List UInt8), t ≤ n ∧ i = .int .i64 ((n : Int) - 1 - (t : Int)) ∧ v = .slice ao' cs.length cap' ∧ Hid (cs = cs0 ++ (be n x).take t) ∧
        OwnB wr ao' cap' cs ∧ Grew w none wr ao') (fun _ i _ => (intOf i + 1).toNat)
      case atStart => exact ⟨0, ao', cap', cs, by omega, by go_num, rfl, by rw [hcs0]; simp [Hid], hown', hg⟩
      case round =>
        clear hown' hg hcs hcl hcs0
        obtain ⟨t, ao3, cap3, cs3, ht, rfl, rfl, hcs3, hown3, hg3⟩ := hrel
        have hcl3 : cs3.length ≤ 20000008 + 8 * k := by rw [hcs3.out, List.length_append, List.length_take]; omega
        by_cases htn : t < n
        · go_wp2_with (at_builtin; refine wpList_appB1 _ rfl _ _ rfl _ _ _ cs3 rfl rfl (hown3.alloc _) _ _ rfl (cell_one _ _ _) ?d2 ?d3 ?_)
          case d2 => omega
          case d3 => omega
          intro ao4 cap4 cs4 w4 hcs4 hown4 hg4
          have hk4 : Hid (cs4 = cs0 ++ (be n x).take (t + 1)) := by
            rw [hcs4.out, hcs3.out, be_step n x t htn, u8_mod, List.append_assoc]; rfl
          have hg5 := (hg3.alloc _).trans hg4
          clear hcs4 hg4 hown3 hg3 hcs3
          go_wp2
          go_roundw
          case rel => exact ⟨t + 1, ao4, cap4, cs4, by omega, by go_num, rfl, hk4, hown4, hg5⟩
          case measure => simp [intOf]; omega
        · have hk4 : Hid (cs3 = bs ++ bes n (vs.take (k + 1))) := by
            have hbt : (be n x).take t = be n x := List.take_of_length_le (by rw [be_length]; omega)
            rw [hcs3.out, hcs1.out, HS.out, hbt, List.append_assoc]; rfl
          clear hcs3
          go_wp2
          go_roundw
          case rel => exact ⟨k + 1, ao3, cap3, cs3, by omega, by go_num, rfl, hk4, hown3, hg3⟩
          case measure => simp [intOf]; omega
    · have hcs2 : cs = bs ++ bes n vs := by rw [hcs.out, List.take_of_length_le (by omega)]
      go_wp2
      go_ret2
      subst hcs2
      exact ⟨ao', cap', rfl, hown', hg⟩

end Go.Proofs.Ytanknjpcgceccaa
