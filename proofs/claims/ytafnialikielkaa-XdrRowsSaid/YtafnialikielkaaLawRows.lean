/- XdrRows: the law's walk. (Printed by wip/tools/gen_lawrows.py.) -/
import Derived.Test.YtafnialikielkaaLawW
namespace Go.Proofs.Ytafnialikielkaa
open Go.RowKit

def rowsPre (va vb : List Int) (vc : List Bool) : List UInt8 := bes 4 va ++ bes 8 vb ++ bes 4 (vc.map boolNum)

theorem flat_le {f : BS → List UInt8} {T c : Nat} {l : List BS} (hf : ∀ s, (f s).length ≤ s.2.2.length + c) (h : ∀ s ∈ l, s.2.2.length ≤ T) : (l.flatMap f).length ≤ (T + c) * l.length := by
  induction l with
  | nil => simp
  | cons a l ih =>
    have h1 := ih fun s hs => h s (by simp [hs])
    have h2 := h a (by simp)
    have h3 := hf a
    rw [List.flatMap_cons, List.length_append, List.length_cons, Nat.mul_add]
    omega

set_option maxHeartbeats 4000000 in
theorem rows_any (w : World) (lA : Option Addr) (cA : Nat) (va : List Int) (lB : Option Addr) (cB : Nat) (vb : List Int) (lC : Option Addr) (cC : Nat) (vc : List Bool) (lD : Option Addr) (cD : Nat) (vd : List BS)
    (ha : Sl w 1 lA va.length cA (va.map (Value.int .u32))) (ha1 : ∀ k, rb lA va.length k → k < w.heap.size) (ha2 : ∀ v ∈ va, 0 ≤ v ∧ v < 4294967296) (ha3 : va.length ≤ 9223372036854775807)
    (hb : Sl w 1 lB vb.length cB (vb.map (Value.int .u64))) (hb1 : ∀ k, rb lB vb.length k → k < w.heap.size) (hb2 : ∀ v ∈ vb, 0 ≤ v ∧ v < 18446744073709551616) (hb3 : vb.length ≤ 9223372036854775807)
    (hc : Sl w 1 lC vc.length cC (vc.map Value.bool)) (hc1 : ∀ k, rb lC vc.length k → k < w.heap.size) (hc3 : vc.length ≤ 9223372036854775807)
    (hd : Sl w 1 lD vd.length cD (vd.map BS.val)) (hd1 : ∀ k, rb lD vd.length k → k < w.heap.size) (hd2 : ∀ s ∈ vd, SlB w s.1 s.2.1 s.2.2 ∧ (∀ k, rb s.1 s.2.2.length k → k < w.heap.size) ∧ s.2.2.length ≤ 9223372036854775807) (hd3 : vd.length ≤ 9223372036854775807) :
    Calls Try.prog 4 #[.slice lA va.length cA, .slice lB vb.length cB, .slice lC vc.length cC, .slice lD vd.length cD] w fun e w' => e = .returned (.bool true) ∧ Below w.heap.size w w' := by
  have HA := hid ha; have HA1 := hid ha1; have HA2 := hid ha2; have HB := hid hb; have HB1 := hid hb1; have HB2 := hid hb2
  have HC := hid hc; have HC1 := hid hc1; have HD := hid hd; have HD1 := hid hd1; have HD2 := hid hd2
  clear ha ha1 ha2 hb hb1 hb2 hc hc1 hd hd1 hd2
  by_cases h1 : 100 < va.length
  · go_enter Try.func4, Try.ntmps4
    go_wp2_with (go_at_call 8; refine (known_any _).mono ?_; rintro e w1 ⟨rfl, hm1⟩)
    go_ret
    exact ⟨rfl, hm1.below (fun _ _ h => h) (Nat.le_refl _)⟩
  by_cases h2 : 100 < vb.length
  · go_enter Try.func4, Try.ntmps4
    go_wp2_with (go_at_call 8; refine (known_any _).mono ?_; rintro e w1 ⟨rfl, hm1⟩)
    go_ret
    exact ⟨rfl, hm1.below (fun _ _ h => h) (Nat.le_refl _)⟩
  by_cases h3 : 100 < vc.length
  · go_enter Try.func4, Try.ntmps4
    go_wp2_with (go_at_call 8; refine (known_any _).mono ?_; rintro e w1 ⟨rfl, hm1⟩)
    go_ret
    exact ⟨rfl, hm1.below (fun _ _ h => h) (Nat.le_refl _)⟩
  by_cases h4 : 30 < vd.length
  · go_enter Try.func4, Try.ntmps4
    go_wp2_with (go_at_call 8; refine (known_any _).mono ?_; rintro e w1 ⟨rfl, hm1⟩)
    go_ret
    exact ⟨rfl, hm1.below (fun _ _ h => h) (Nat.le_refl _)⟩
  go_enter Try.func4, Try.ntmps4
  go_wp2_with (go_at_call 8; refine (known_any _).mono ?_; rintro e w1 ⟨rfl, hm1⟩)
  refine (NewWriter_any _).mono ?_
  rintro e w2 ⟨p, rfl, hp, hw2, hm2⟩
  obtain ⟨q, hq⟩ : ∃ q, q = w1.heap.size := ⟨_, rfl⟩
  have hq1 : (w1.alloc (.cells #[.slice none 0 0] 29)).cell? ⟨q, 0, none⟩ = some (.slice none 0 0) := by rw [hq]; simp
  have hq2 : (w1.alloc (.cells #[.slice none 0 0] 29)).frozen? ⟨q, 0, none⟩ = false := by rw [hq]; simp
  have hww : Hid (WW w.heap.size w2 p none 0 q none 0 [] []) := by
    have h5 := hm1.size; have h6 := hm2.size; have h7 := hw2.lt
    simp at hp h6
    have hb : (w1.alloc (.cells #[.slice none 0 0] 29)).heap[q]? = some (.cells #[.slice none 0 0] 29) := by rw [hq]; exact heap_alloc_new w1 _
    have hb2 := hm2.obj hb (fun h => h)
    exact ⟨hw2, ⟨hm2.cell hq1 (fun h => h), by simp [World.frozen?, hb2], OwnB.nil _, fun h => h⟩, by omega, fun h => h, fun h => h, fun _ h => h.elim, by omega, by omega, fun _ h => h.elim, fun _ h => h.elim, by omega⟩
  have hmods : Hid (Mods (fun k => w.heap.size ≤ k) w w2) := ((hm1.mono fun _ _ h => h.elim).trans (Mods.alloc _ _ _)).trans (hm2.mono fun _ _ h => h.elim)
  rw [← hq]
  clear hm1 hm2 hw2 hq1 hq2 hq hp
  have hA1 : Hid (∀ k, rb lA va.length k → k ≠ p ∧ ¬ blk none k) := fun k hk => ⟨fun h => by have := HA1.out k hk; have := hww.out.lp; omega, fun h => h⟩
  go_wp2_with fail
  refine (U32_any p none 0 [] lA cA va w2 hww.out.one (by simp; omega) HA2.out (HA.out.below HA1.out hmods.out) hA1.out).mono ?_
  rintro e w3 ⟨ao3, cap3, rfl, hw3, hg3⟩
  have hww3 := hid (hww.out.first hw3 hg3)
  have hmods3 := hid (hmods.out.trans hww3.out.2)
  obtain ⟨x3, hx3⟩ : ∃ x, x = [] ++ bes 4 va := ⟨_, rfl⟩
  rw [← hx3] at hww3
  have hl3 : x3.length ≤ 400 := by rw [hx3, List.nil_append, bes_length]; omega
  have HX3 := hid hx3
  clear hw3 hg3 hww hmods hA1 hx3
  go_wp2_with fail
  refine (U64_any p ao3 cap3 x3 lB cB vb w3 hww3.out.1.one (by omega) HB2.out (HB.out.below HB1.out hmods3.out) (by omega)).mono ?_
  rintro e w4 ⟨ao4, cap4, rfl, hw4, hg4⟩
  have hww4 := hid (hww3.out.1.first hw4 hg4)
  have hmods4 := hid (hmods3.out.trans hww4.out.2)
  obtain ⟨x4, hx4⟩ : ∃ x, x = x3 ++ bes 8 vb := ⟨_, rfl⟩
  rw [← hx4] at hww4
  have hl4 : x4.length ≤ 1200 := by rw [hx4, List.length_append, bes_length]; omega
  have HX4 := hid hx4
  have hC1 : Hid (∀ k, rb lC vc.length k → k ≠ p ∧ ¬ blk ao4 k) := fun k hk => ⟨fun h => by have := HC1.out k hk; have := hww4.out.1.lp; omega, fun h => by have := HC1.out k hk; have := hww4.out.1.la k h; omega⟩
  clear hw4 hg4 hww3 hmods3 hx4
  go_wp2_with fail
  refine (Bool_any p ao4 cap4 x4 lC cC vc w4 hww4.out.1.one (by omega) (HC.out.below HC1.out hmods4.out) hC1.out).mono ?_
  rintro e w5 ⟨ao5, cap5, rfl, hw5, hg5⟩
  have hww5 := hid (hww4.out.1.first hw5 hg5)
  have hmods5 := hid (hmods4.out.trans hww5.out.2)
  obtain ⟨x5, hx5⟩ : ∃ x, x = x4 ++ bes 4 (vc.map boolNum) := ⟨_, rfl⟩
  rw [← hx5] at hww5
  have hl5 : x5.length ≤ 1600 := by rw [hx5, List.length_append, bes_length, List.length_map]; omega
  have HX5 : Hid (x5 = rowsPre va vb vc) := by rw [hx5, HX4.out, HX3.out]; rfl
  clear hw5 hg5 hww4 hmods4 hx5 hC1 HX3 HX4 hl3 hl4
  obtain ⟨hww6, hmods6⟩ : Hid (WW w.heap.size w5 p ao5 cap5 q none 0 x5 []) ∧ Hid (Mods (fun k => w.heap.size ≤ k) w w5) := ⟨hww5.out.1, hmods5.out⟩
  clear hww5 hmods5

  obtain ⟨bo0, bcap0, y0, hbo, hbc, hy0⟩ : ∃ (bo : Option Addr) (bcap : Nat) (y : List UInt8), bo = none ∧ bcap = 0 ∧ y = [] := ⟨_, _, _, rfl, rfl, rfl⟩
  rw [← hbo, ← hbc, ← hy0] at hww6
  have HY0 : Hid (y0 = []) := hy0
  clear hbo hbc hy0
  have hly0 : y0.length ≤ 0 := by rw [HY0.out]; simp
  go_wp2
  go_loopw [11] (fun i wr => ∃ (k : Nat) (bo : Option Addr) (bcap : Nat) (ys : List UInt8), k ≤ va.length ∧ i = .int .i64 (k : Int) ∧ Hid (ys = y0 ++ bes 4 (va.take k)) ∧
      WW w.heap.size wr p ao5 cap5 q bo bcap x5 ys ∧ Mods (fun k => w.heap.size ≤ k) w wr) (fun i _ => va.length - (intOf i).toNat)
  case atStart => exact ⟨0, bo0, bcap0, y0, by omega, by go_num, by simp [bes, Hid], hww6.out, hmods6.out⟩
  case round =>
    obtain ⟨k, bo, bcap, ys, hk, rfl, hys, hw, hm⟩ := hrel
    have HW := hid hw; have HM := hid hm; have HY := hid hys; clear hw hm hys hww6 hmods6
    have hyl : ys.length ≤ 400 := by rw [HY.out.out, List.length_append, bes_length, List.length_take]; omega
    by_cases hlt : k < va.length
    · have HE : Hid (∃ b o, lA = some ⟨b, o, none⟩ ∧ wr.cell? ⟨b, o + k, none⟩ = some (.int .u32 va[k])) := by
        obtain ⟨b, o, h1, h2⟩ := (HA.out.below HA1.out HM.out).at (j := k) (by simpa using hlt)
        exact ⟨b, o, h1, by simpa using h2⟩
      have hmem : va[k] ∈ va := by simp
      have HS : Hid (bes 4 (va.take (k + 1)) = bes 4 (va.take k) ++ be 4 va[k]) := by
        rw [List.take_succ_eq_append_getElem hlt]; exact bes_snoc _ _ _
      have HC0 := hid (RU32_any q bo bcap ys _ wr HW.out.two (by omega) (HA2.out _ hmem))
      obtain ⟨b, o, hlo, hcell⟩ := HE.out
      clear HE hmem
      rw [hlo]
      clear hlo
      obtain ⟨x, hx⟩ : ∃ x, x = va[k] := ⟨_, rfl⟩
      rw [← hx] at hcell HS HC0
      clear hx
      go_wp2_with fail
      refine HC0.out.mono ?_
      rintro e w9 ⟨bo9, bcap9, rfl, hw9, hg9⟩
      have H9 := hid (HW.out.symm.first hw9 hg9)
      obtain ⟨ys9, hys9⟩ : ∃ c, c = ys ++ be 4 x := ⟨_, rfl⟩
      have H9' : Hid (WW w.heap.size w9 p ao5 cap5 q bo9 bcap9 x5 ys9) := by rw [hys9]; exact H9.out.1.symm
      have HM9 := hid (HM.out.trans H9.out.2)
      have HY9 : Hid (ys9 = y0 ++ bes 4 (va.take (k + 1))) := by rw [hys9, HY.out.out, HS.out, List.append_assoc]; rfl
      clear hw9 hg9 H9 hys9 HC0 HS hcell
      go_wp2
      go_roundw
      case rel => exact ⟨k + 1, bo9, bcap9, ys9, by omega, by go_num, HY9, H9'.out, HM9.out⟩
      case measure => simp [intOf]; omega
    have HYE : Hid (ys = y0 ++ bes 4 (va)) := by rw [HY.out.out, List.take_of_length_le (by omega)]; rfl
    clear HY
    obtain ⟨bo1, hbo⟩ : ∃ c, c = bo := ⟨_, rfl⟩
    obtain ⟨bcap1, hbc⟩ : ∃ c, c = bcap := ⟨_, rfl⟩
    obtain ⟨y1, hyy⟩ : ∃ c, c = ys := ⟨_, rfl⟩
    obtain ⟨wr1, hwr⟩ : ∃ c, c = wr := ⟨_, rfl⟩
    have hww7_1 : Hid (WW w.heap.size wr1 p ao5 cap5 q bo1 bcap1 x5 y1) := by rw [hbo, hbc, hyy, hwr]; exact HW.out
    have hmods7_1 : Hid (Mods (fun k => w.heap.size ≤ k) w wr1) := by rw [hwr]; exact HM.out
    have HYE1 : Hid (y1 = y0 ++ bes 4 (va)) := by rw [hyy]; exact HYE.out
    have hly1 : y1.length ≤ 400 := by rw [hyy]; exact hyl
    rw [← hwr]
    clear HW HM HYE hyl hbo hbc hyy hwr
    go_wp2
    go_loopw [12] (fun i wr => ∃ (k : Nat) (bo : Option Addr) (bcap : Nat) (ys : List UInt8), k ≤ vb.length ∧ i = .int .i64 (k : Int) ∧ Hid (ys = y1 ++ bes 8 (vb.take k)) ∧
        WW w.heap.size wr p ao5 cap5 q bo bcap x5 ys ∧ Mods (fun k => w.heap.size ≤ k) w wr) (fun i _ => vb.length - (intOf i).toNat)
    case atStart => exact ⟨0, bo1, bcap1, y1, by omega, by go_num, by simp [bes, Hid], hww7_1.out, hmods7_1.out⟩
    case round =>
      obtain ⟨k, bo, bcap, ys, hk, rfl, hys, hw, hm⟩ := hrel
      have HW := hid hw; have HM := hid hm; have HY := hid hys; clear hw hm hys hww7_1 hmods7_1
      have hyl : ys.length ≤ 1200 := by rw [HY.out.out, List.length_append, bes_length, List.length_take]; omega
      by_cases hlt : k < vb.length
      · have HE : Hid (∃ b o, lB = some ⟨b, o, none⟩ ∧ wr.cell? ⟨b, o + k, none⟩ = some (.int .u64 vb[k])) := by
          obtain ⟨b, o, h1, h2⟩ := (HB.out.below HB1.out HM.out).at (j := k) (by simpa using hlt)
          exact ⟨b, o, h1, by simpa using h2⟩
        have hmem : vb[k] ∈ vb := by simp
        have HS : Hid (bes 8 (vb.take (k + 1)) = bes 8 (vb.take k) ++ be 8 vb[k]) := by
          rw [List.take_succ_eq_append_getElem hlt]; exact bes_snoc _ _ _
        have HC0 := hid (RU64_any q bo bcap ys _ wr HW.out.two (by omega) (HB2.out _ hmem))
        obtain ⟨b, o, hlo, hcell⟩ := HE.out
        clear HE hmem
        rw [hlo]
        clear hlo
        obtain ⟨x, hx⟩ : ∃ x, x = vb[k] := ⟨_, rfl⟩
        rw [← hx] at hcell HS HC0
        clear hx
        go_wp2_with fail
        refine HC0.out.mono ?_
        rintro e w9 ⟨bo9, bcap9, rfl, hw9, hg9⟩
        have H9 := hid (HW.out.symm.first hw9 hg9)
        obtain ⟨ys9, hys9⟩ : ∃ c, c = ys ++ be 8 x := ⟨_, rfl⟩
        have H9' : Hid (WW w.heap.size w9 p ao5 cap5 q bo9 bcap9 x5 ys9) := by rw [hys9]; exact H9.out.1.symm
        have HM9 := hid (HM.out.trans H9.out.2)
        have HY9 : Hid (ys9 = y1 ++ bes 8 (vb.take (k + 1))) := by rw [hys9, HY.out.out, HS.out, List.append_assoc]; rfl
        clear hw9 hg9 H9 hys9 HC0 HS hcell
        go_wp2
        go_roundw
        case rel => exact ⟨k + 1, bo9, bcap9, ys9, by omega, by go_num, HY9, H9'.out, HM9.out⟩
        case measure => simp [intOf]; omega
      have HYE : Hid (ys = y1 ++ bes 8 (vb)) := by rw [HY.out.out, List.take_of_length_le (by omega)]; rfl
      clear HY
      obtain ⟨bo2, hbo⟩ : ∃ c, c = bo := ⟨_, rfl⟩
      obtain ⟨bcap2, hbc⟩ : ∃ c, c = bcap := ⟨_, rfl⟩
      obtain ⟨y2, hyy⟩ : ∃ c, c = ys := ⟨_, rfl⟩
      obtain ⟨wr2, hwr⟩ : ∃ c, c = wr := ⟨_, rfl⟩
      have hww7_2 : Hid (WW w.heap.size wr2 p ao5 cap5 q bo2 bcap2 x5 y2) := by rw [hbo, hbc, hyy, hwr]; exact HW.out
      have hmods7_2 : Hid (Mods (fun k => w.heap.size ≤ k) w wr2) := by rw [hwr]; exact HM.out
      have HYE2 : Hid (y2 = y1 ++ bes 8 (vb)) := by rw [hyy]; exact HYE.out
      have hly2 : y2.length ≤ 1200 := by rw [hyy]; exact hyl
      rw [← hwr]
      clear HW HM HYE hyl hbo hbc hyy hwr
      go_wp2
      go_loopw [13] (fun i wr => ∃ (k : Nat) (bo : Option Addr) (bcap : Nat) (ys : List UInt8), k ≤ vc.length ∧ i = .int .i64 (k : Int) ∧ Hid (ys = y2 ++ bes 4 ((vc.take k).map boolNum)) ∧
          WW w.heap.size wr p ao5 cap5 q bo bcap x5 ys ∧ Mods (fun k => w.heap.size ≤ k) w wr) (fun i _ => vc.length - (intOf i).toNat)
      case atStart => exact ⟨0, bo2, bcap2, y2, by omega, by go_num, by simp [bes, Hid], hww7_2.out, hmods7_2.out⟩
      case round =>
        obtain ⟨k, bo, bcap, ys, hk, rfl, hys, hw, hm⟩ := hrel
        have HW := hid hw; have HM := hid hm; have HY := hid hys; clear hw hm hys hww7_2 hmods7_2
        have hyl : ys.length ≤ 1600 := by rw [HY.out.out, List.length_append, bes_length, List.length_map, List.length_take]; omega
        by_cases hlt : k < vc.length
        · have HE : Hid (∃ b o, lC = some ⟨b, o, none⟩ ∧ wr.cell? ⟨b, o + k, none⟩ = some (.bool vc[k])) := by
            obtain ⟨b, o, h1, h2⟩ := (HC.out.below HC1.out HM.out).at (j := k) (by simpa using hlt)
            exact ⟨b, o, h1, by simpa using h2⟩
          have hmem : vc[k] ∈ vc := by simp
          have HS : Hid (bes 4 ((vc.take (k + 1)).map boolNum) = bes 4 ((vc.take k).map boolNum) ++ be 4 (boolNum vc[k])) := by
            rw [List.take_succ_eq_append_getElem hlt]; exact by rw [List.map_append]; exact bes_snoc _ _ _
          have HC0 := hid (RBool_any q bo bcap ys vc[k] wr HW.out.two (by omega))
          obtain ⟨b, o, hlo, hcell⟩ := HE.out
          clear HE hmem
          rw [hlo]
          clear hlo
          obtain ⟨x, hx⟩ : ∃ x, x = vc[k] := ⟨_, rfl⟩
          rw [← hx] at hcell HS HC0
          clear hx
          go_wp2_with fail
          refine HC0.out.mono ?_
          rintro e w9 ⟨bo9, bcap9, rfl, hw9, hg9⟩
          have H9 := hid (HW.out.symm.first hw9 hg9)
          obtain ⟨ys9, hys9⟩ : ∃ c, c = ys ++ be 4 (boolNum x) := ⟨_, rfl⟩
          have H9' : Hid (WW w.heap.size w9 p ao5 cap5 q bo9 bcap9 x5 ys9) := by rw [hys9]; exact H9.out.1.symm
          have HM9 := hid (HM.out.trans H9.out.2)
          have HY9 : Hid (ys9 = y2 ++ bes 4 ((vc.take (k + 1)).map boolNum)) := by rw [hys9, HY.out.out, HS.out, List.append_assoc]; rfl
          clear hw9 hg9 H9 hys9 HC0 HS hcell
          go_wp2
          go_roundw
          case rel => exact ⟨k + 1, bo9, bcap9, ys9, by omega, by go_num, HY9, H9'.out, HM9.out⟩
          case measure => simp [intOf]; omega
        have HYE : Hid (ys = y2 ++ bes 4 ((vc).map boolNum)) := by rw [HY.out.out, List.take_of_length_le (by omega)]; rfl
        clear HY
        obtain ⟨bo3, hbo⟩ : ∃ c, c = bo := ⟨_, rfl⟩
        obtain ⟨bcap3, hbc⟩ : ∃ c, c = bcap := ⟨_, rfl⟩
        obtain ⟨y3, hyy⟩ : ∃ c, c = ys := ⟨_, rfl⟩
        obtain ⟨wr3, hwr⟩ : ∃ c, c = wr := ⟨_, rfl⟩
        have hww7_3 : Hid (WW w.heap.size wr3 p ao5 cap5 q bo3 bcap3 x5 y3) := by rw [hbo, hbc, hyy, hwr]; exact HW.out
        have hmods7_3 : Hid (Mods (fun k => w.heap.size ≤ k) w wr3) := by rw [hwr]; exact HM.out
        have HYE3 : Hid (y3 = y2 ++ bes 4 ((vc).map boolNum)) := by rw [hyy]; exact HYE.out
        have hly3 : y3.length ≤ 1600 := by rw [hyy]; exact hyl
        rw [← hwr]
        clear HW HM HYE hyl hbo hbc hyy hwr
        have HXY : Hid (y3 = x5) := by rw [HYE3.out, HYE2.out, HYE1.out, HY0.out, HX5.out]; simp [rowsPre, Hid]
        clear HYE1 HYE2 HYE3 HX5 HY0 HA HA1 HA2 HB HB1 HB2 HC HC1 hly0 hly1 hly2
        go_wp2
        go_loopw [14] (fun i wr => ∃ (k : Nat) (bo : Option Addr) (bcap : Nat) (ys : List UInt8), k ≤ vd.length ∧ i = .int .i64 (k : Int) ∧ Hid (ys = y3 ++ (vd.take k).flatMap fun s => row s.2.2) ∧ Hid (∀ s ∈ vd.take k, s.2.2.length ≤ 2000) ∧
            WW w.heap.size wr p ao5 cap5 q bo bcap x5 ys ∧ Mods (fun k => w.heap.size ≤ k) w wr) (fun i _ => vd.length - (intOf i).toNat)
        case atStart => exact ⟨0, bo3, bcap3, y3, by omega, by go_num, by simp [Hid], by simp [Hid], hww7_3.out, hmods7_3.out⟩
        case round =>
          obtain ⟨k, bo, bcap, ys, hk, rfl, hys, hT, hw, hm⟩ := hrel
          have HW := hid hw; have HM := hid hm; have HY := hid hys; have HT := hid hT; clear hw hm hys hT hww7_3 hmods7_3
          have hyl : ys.length ≤ 62000 := by
            have := flat_le (f := fun s => row s.2.2) (T := 2000) (c := 7) (l := vd.take k) (fun s => row_length s.2.2) HT.out.out
            rw [HY.out.out, List.length_append]
            rw [List.length_take] at this
            have h9 : 2007 * min k vd.length ≤ 2007 * 30 := Nat.mul_le_mul_left _ (by omega)
            omega
          by_cases hlt : k < vd.length
          · obtain ⟨⟨xo, xc, xs⟩, hx⟩ : ∃ x, x = vd[k] := ⟨_, rfl⟩
            have hmem : (xo, xc, xs) ∈ vd := by rw [hx]; simp
            have HE : Hid (∃ b o, lD = some ⟨b, o, none⟩ ∧ wr.cell? ⟨b, o + k, none⟩ = some (.slice xo xs.length xc)) := by
              obtain ⟨b, o, h1, h2⟩ := (HD.out.below HD1.out HM.out).at (j := k) (by simpa using hlt)
              exact ⟨b, o, h1, by rw [h2]; simp [← hx, BS.val]⟩
            have HS : Hid ((vd.take (k + 1)).flatMap (fun s => row s.2.2) = (vd.take k).flatMap (fun s => row s.2.2) ++ row xs) := by
              rw [List.take_succ_eq_append_getElem hlt, ← hx, List.flatMap_append]; simp [Hid]
            have HG := hid (HD2.out _ hmem)
            have hxs : xs.length ≤ 9223372036854775807 := HG.out.2.2
            have HTS : Hid (xs.length ≤ 2000 → ∀ s ∈ vd.take (k + 1), s.2.2.length ≤ 2000) := fun h s hs => by
              rw [List.take_succ_eq_append_getElem hlt, ← hx] at hs
              rcases List.mem_append.1 hs with h1 | h1
              · exact HT.out.out s h1
              · rw [List.mem_singleton.1 h1]; exact h
            obtain ⟨b, o, hlo, hcell⟩ := HE.out
            clear HE hmem hx
            rw [hlo]
            clear hlo
            by_cases hbig : 2000 < xs.length
            · go_wp2
              go_ret
              exact ⟨rfl, HM.out.below (fun k hk h => by omega) (Nat.le_refl _)⟩
            · have HC0 := hid (RBytes_any q bo bcap ys xo xc xs wr HW.out.two (by omega) (HG.out.1.below HG.out.2.1 HM.out) (fun k hk => ⟨fun h => by have := HG.out.2.1 k hk; have := HW.out.lq; omega, fun h => by have := HG.out.2.1 k hk; have := HW.out.lb k h; omega⟩))
              go_wp2_with fail
              refine HC0.out.mono ?_
              rintro e w9 ⟨bo9, bcap9, rfl, hw9, hg9⟩
              have H9 := hid (HW.out.symm.first hw9 hg9)
              obtain ⟨ys9, hys9⟩ : ∃ c, c = ys ++ row xs := ⟨_, rfl⟩
              have H9' : Hid (WW w.heap.size w9 p ao5 cap5 q bo9 bcap9 x5 ys9) := by rw [hys9]; exact H9.out.1.symm
              have HM9 := hid (HM.out.trans H9.out.2)
              have HY9 : Hid (ys9 = y3 ++ (vd.take (k + 1)).flatMap fun s => row s.2.2) := by rw [hys9, HY.out.out, HS.out, List.append_assoc]; rfl
              have HT9 := HTS.out (by omega)
              have HT9' := hid HT9
              clear hw9 hg9 H9 hys9 HC0 HS hcell HT9
              go_wp2
              go_roundw
              case rel => exact ⟨k + 1, bo9, bcap9, ys9, by omega, by go_num, HY9, HT9', H9'.out, HM9.out⟩
              case measure => simp [intOf]; omega
          have HTA : Hid (∀ s ∈ vd, s.2.2.length ≤ 2000) := by have := HT.out.out; rwa [List.take_of_length_le (by omega)] at this
          have HYE : Hid (ys = x5 ++ vd.flatMap fun s => row s.2.2) := by rw [HY.out.out, List.take_of_length_le (by omega), HXY.out]; rfl
          have HSS : Hid (∀ s ∈ vd, SlB wr s.1 s.2.1 s.2.2 ∧ ∀ k, rb s.1 s.2.2.length k → k < wr.heap.size ∧ k ≠ p ∧ ¬ blk ao5 k) := fun s hs => by
            have hg := HD2.out s hs
            have hsz := HM.out.size
            refine ⟨hg.1.below hg.2.1 HM.out, fun k hk => ⟨?_, ?_, ?_⟩⟩
            · have := hg.2.1 k hk; omega
            · intro h; have := hg.2.1 k hk; have := HW.out.lp; omega
            · intro h; have := hg.2.1 k hk; have := HW.out.la k h; omega
          have HDP : Hid (∀ k, rb lD vd.length k → k ≠ p ∧ ¬ blk ao5 k) := fun k hk => ⟨fun h => by have := HD1.out k hk; have := HW.out.lp; omega, fun h => by have := HD1.out k hk; have := HW.out.la k h; omega⟩
          have HC1 := hid (Bytes_any p ao5 cap5 x5 lD cD vd wr HW.out.one 2000 HTA.out (by have h9 : 2007 * vd.length ≤ 2007 * 30 := Nat.mul_le_mul_left _ (by omega); omega) (HD.out.below HD1.out HM.out) HDP.out HSS.out)
          clear HY HT HXY
          go_wp2_with fail
          refine HC1.out.mono ?_
          rintro e w9 ⟨ao9, cap9, rfl, hw9, hg9⟩
          have H9 := hid (HW.out.first hw9 hg9)
          obtain ⟨x9, hx9⟩ : ∃ c, c = x5 ++ vd.flatMap fun s => row s.2.2 := ⟨_, rfl⟩
          rw [← hx9] at HYE H9
          have HYE9 := HYE.out
          have H10 : Hid (WW w.heap.size w9 p ao9 cap9 q bo bcap x9 x9) := by have := H9.out.1; rw [HYE9] at this; exact this
          have HM10 := hid (HM.out.trans H9.out.2)
          have hx9l : x9.length ≤ 62000 := by rw [← HYE9]; exact hyl
          clear hw9 hg9 H9 HYE9 HYE HC1 HSS HDP HW HM hx9 hyl
          go_wp2
          go_loopw [15] (fun i wr => ∃ (k : Nat) (bo : Option Addr) (bcap : Nat) (ys : List UInt8), k ≤ vd.length ∧ i = .int .i64 (k : Int) ∧ Hid (ys = x9 ++ (vd.take k).flatMap fun s => padded s.2.2) ∧
              WW w.heap.size wr p ao9 cap9 q bo bcap x9 ys ∧ Mods (fun k => w.heap.size ≤ k) w wr) (fun i _ => vd.length - (intOf i).toNat)
          case atStart => exact ⟨0, bo, bcap, x9, by omega, by go_num, by simp [Hid], H10.out, HM10.out⟩
          case round =>
            clear H10 HM10
            obtain ⟨k, bo, bcap, ys, hk, rfl, hys, hw, hm⟩ := hrel
            have HW := hid hw; have HM := hid hm; have HY := hid hys; clear hw hm hys
            have hyl : ys.length ≤ 130000 := by
              have := flat_le (f := fun s => padded s.2.2) (T := 2000) (c := 3) (l := vd.take k) (fun s => padded_length s.2.2) (fun s hs => HTA.out s (List.mem_of_mem_take hs))
              rw [HY.out.out, List.length_append]
              rw [List.length_take] at this
              have h9 : 2003 * min k vd.length ≤ 2003 * 30 := Nat.mul_le_mul_left _ (by omega)
              omega
            by_cases hlt : k < vd.length
            · obtain ⟨⟨xo, xc, xs⟩, hx⟩ : ∃ x, x = vd[k] := ⟨_, rfl⟩
              have hmem : (xo, xc, xs) ∈ vd := by rw [hx]; simp
              have HE : Hid (∃ b o, lD = some ⟨b, o, none⟩ ∧ wr.cell? ⟨b, o + k, none⟩ = some (.slice xo xs.length xc)) := by
                obtain ⟨b, o, h1, h2⟩ := (HD.out.below HD1.out HM.out).at (j := k) (by simpa using hlt)
                exact ⟨b, o, h1, by rw [h2]; simp [← hx, BS.val]⟩
              have HS : Hid ((vd.take (k + 1)).flatMap (fun s => padded s.2.2) = (vd.take k).flatMap (fun s => padded s.2.2) ++ padded xs) := by
                rw [List.take_succ_eq_append_getElem hlt, ← hx, List.flatMap_append]; simp [Hid]
              have HG := hid (HD2.out _ hmem)
              have hxs : xs.length ≤ 2000 := HTA.out _ hmem
              obtain ⟨b, o, hlo, hcell⟩ := HE.out
              clear HE hmem hx
              rw [hlo]
              clear hlo
              have HC0 := hid (RFixed_any q bo bcap ys xo xc xs wr HW.out.two (by omega) (HG.out.1.below HG.out.2.1 HM.out))
              go_wp2_with fail
              refine HC0.out.mono ?_
              rintro e w9 ⟨bo9, bcap9, rfl, hw9, hg9⟩
              have H9 := hid (HW.out.symm.first hw9 hg9)
              obtain ⟨ys9, hys9⟩ : ∃ c, c = ys ++ padded xs := ⟨_, rfl⟩
              have H9' : Hid (WW w.heap.size w9 p ao9 cap9 q bo9 bcap9 x9 ys9) := by rw [hys9]; exact H9.out.1.symm
              have HM9 := hid (HM.out.trans H9.out.2)
              have HY9 : Hid (ys9 = x9 ++ (vd.take (k + 1)).flatMap fun s => padded s.2.2) := by rw [hys9, HY.out.out, HS.out, List.append_assoc]; rfl
              clear hw9 hg9 H9 hys9 HC0 HS hcell
              go_wp2
              go_roundw
              case rel => exact ⟨k + 1, bo9, bcap9, ys9, by omega, by go_num, HY9, H9'.out, HM9.out⟩
              case measure => simp [intOf]; omega
            have HYE : Hid (ys = x9 ++ vd.flatMap fun s => padded s.2.2) := by rw [HY.out.out, List.take_of_length_le (by omega)]; rfl
            have HSS : Hid (∀ s ∈ vd, SlB wr s.1 s.2.1 s.2.2 ∧ ∀ k, rb s.1 s.2.2.length k → k ≠ p ∧ ¬ blk ao9 k) := fun s hs => by
              have hg := HD2.out s hs
              refine ⟨hg.1.below hg.2.1 HM.out, fun k hk => ⟨?_, ?_⟩⟩
              · intro h; have := hg.2.1 k hk; have := HW.out.lp; omega
              · intro h; have := hg.2.1 k hk; have := HW.out.la k h; omega
            have HDP : Hid (∀ k, rb lD vd.length k → k ≠ p ∧ ¬ blk ao9 k) := fun k hk => ⟨fun h => by have := HD1.out k hk; have := HW.out.lp; omega, fun h => by have := HD1.out k hk; have := HW.out.la k h; omega⟩
            have HC1 := hid (Fixed_any p ao9 cap9 x9 lD cD vd wr HW.out.one 2000 HTA.out (by have h9 : 2003 * vd.length ≤ 2003 * 30 := Nat.mul_le_mul_left _ (by omega); omega) (HD.out.below HD1.out HM.out) HDP.out HSS.out)
            clear HY
            go_wp2_with fail
            refine HC1.out.mono ?_
            rintro e w10 ⟨ao10, cap10, rfl, hw10, hg10⟩
            have H11 := hid (HW.out.first hw10 hg10)
            obtain ⟨x10, hx10⟩ : ∃ c, c = x9 ++ vd.flatMap fun s => padded s.2.2 := ⟨_, rfl⟩
            rw [← hx10] at HYE H11
            have HYE9 := HYE.out
            have H12 : Hid (WW w.heap.size w10 p ao10 cap10 q bo bcap x10 x10) := by have := H11.out.1; rw [HYE9] at this; exact this
            have HM12 := hid (HM.out.trans H11.out.2)
            have hx10l : x10.length ≤ 130000 := by rw [← HYE9]; exact hyl
            clear hw10 hg10 H11 HYE9 HYE HC1 HSS HDP HW HM hx10 hyl
            have HS : Hid (∀ w', Mods (fun _ => False) w10 w' → w'.cell? ⟨q, 0, none⟩ = some (.slice bo x10.length bcap) ∧ (convert 27 9 (.slice bo x10.length bcap)).run Try.prog w' = .ok (.string (str x10)) w') := fun w' hm =>
              have h2 := H12.out.two.keep hm (fun h => h) (fun _ _ h => h)
              ⟨h2.cell, run_conv h2.own.sl⟩
            go_wp2_with fail
            have hcq := (HS.out w10 (Mods.refl _ _)).1
            have hcv := (HS.out w10.drew (Mods.drew _ _)).2
            go_region_with (first | (go_at_call 11; refine (Done_any p ao10 cap10 x10 _ (H12.out.new (Mods.drew _ _)).one (by omega)).mono ?_; rintro e w4 ⟨ao4, cap4, rfl, ho4, hg4⟩; have hm4 : Mods (fun _ => False) w10 w4 := (Mods.drew _ _).trans hg4.mods; have hcv4 := run_conv ho4.sl; have hcv5 := (HS.out w4 hm4).2; have hcq5 := (HS.out w4 hm4).1))
            all_goals
              have HM4 := hid (HM12.out.trans (hm4.mono fun _ _ h => h.elim))
              clear hcq hcv hcq5 hcv5 hcv4 hm4 hg4 ho4
              go_wp2
              go_ret
              exact ⟨rfl, HM4.out.below (fun k hk h => by omega) (Nat.le_refl _)⟩

end Go.Proofs.Ytafnialikielkaa
