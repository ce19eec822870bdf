/- slices.Equal on bytes. -/
import Derived.Test.YtanknjpcgceccaaRRead
import Derived.BigQuiet
import Derived.Test.YtanknjpcgceccaaApi
import Derived.Test.YtanknjpcgceccaaChain
import Derived.Deep.Cut
import Derived.Test.YtanknjpcgceccaaCopy2
namespace Go.Proofs.Ytanknjpcgceccaa
open Go.RowKit

theorem take_grow {α : Type} {l m : List α} {k : Nat} (hl : k < l.length) (hm : k < m.length) (h : l.take k = m.take k) (he : l[k] = m[k]) : l.take (k + 1) = m.take (k + 1) := by
  rw [List.take_succ_eq_append_getElem hl, List.take_succ_eq_append_getElem hm, h, he]

set_option maxRecDepth 100000 in
set_option maxHeartbeats 1000000 in
theorem EqualB_any (ao : Option Addr) (ac : Nat) (xs : List UInt8) (bo : Option Addr) (bc : Nat) (bs : List UInt8) (w : World) (ha : SlB w ao ac xs) (hb : SlB w bo bc bs) (hla : xs.length ≤ 9223372036854775807) (hlb : bs.length ≤ 9223372036854775807) :
    Calls Try.prog 46 #[.slice ao xs.length ac, .slice bo bs.length bc] w fun e w' => e = .returned (.bool (decide (xs = bs))) ∧ Quiet w w' := by
  have HA := hid ha; have HB := hid hb; clear ha hb
  by_cases hne : xs.length = bs.length
  · have hne2 : (xs.length : Int) = (bs.length : Int) := by omega
    go_enter Try.func46, Try.ntmps46
    go_wp2
    go_loopw [13] (fun i wr => ∃ (k : Nat), k ≤ xs.length ∧ i = .int .i64 (k : Int) ∧ Quiet w wr ∧ xs.take k = bs.take k) (fun i _ => xs.length - (intOf i).toNat)
    case atStart => exact ⟨0, by omega, by go_num, Quiet.refl _, by simp⟩
    case round =>
      obtain ⟨k, hk, rfl, hq, ht⟩ := hrel
      have HQ := hid hq; have HT := hid ht; clear hq ht
      by_cases hlt : k < xs.length
      · have hlb2 : k < bs.length := by omega
        obtain ⟨b1, o1, rfl, hc1⟩ := (HA.out.keep (Quiet.mods (w := w) (w' := wr) HQ.out (fun _ => False)) (fun _ _ h => h)).at hlt
        obtain ⟨b2, o2, rfl, hc2⟩ := (HB.out.keep (Quiet.mods (w := w) (w' := wr) HQ.out (fun _ => False)) (fun _ _ h => h)).at hlb2
        obtain ⟨x, hx⟩ : ∃ x, x = xs[k] := ⟨_, rfl⟩
        obtain ⟨y, hy⟩ : ∃ y, y = bs[k] := ⟨_, rfl⟩
        rw [← hx] at hc1
        rw [← hy] at hc2
        have HX := hid hx; have HY := hid hy; clear hx hy
        by_cases hxy : x = y
        · subst hxy
          have hnt := hid (take_grow hlt hlb2 HT.out (by rw [← HX.out, ← HY.out]))
          go_wp2_with fail
          go_quiet (fail)
          have hq2 := hid (Quiet.trans (a := w) (b := wr) HQ.out ⟨nq, rfl⟩)
          clear hc1 hc2
          go_wp2
          go_roundw
          case rel => exact ⟨k + 1, by omega, by go_num, hq2.out, hnt.out⟩
          case measure => simp [intOf]; omega
        · have hxn : ¬ ((x.toNat : Int) = (y.toNat : Int)) := fun h => hxy (UInt8.toNat_inj.1 (by omega))
          have hno : Hid (xs ≠ bs) := fun e => hxy (by rw [HX.out, HY.out]; simp [e])
          go_wp2_with fail
          go_quiet (fail)
          have hq2 := hid (Quiet.trans (a := w) (b := wr) HQ.out ⟨nq, rfl⟩)
          clear hc1 hc2
          go_wp2
          go_ret
          exact ⟨by rw [decide_eq_false hno.out]; rfl, hq2.out⟩
      · have hyes : Hid (xs = bs) := hid (by
          have h := HT.out
          rwa [List.take_of_length_le (by omega), List.take_of_length_le (by omega)] at h)
        go_wp2
        go_ret
        exact ⟨by rw [decide_eq_true hyes.out]; rfl, HQ.out⟩
  · have hne2 : ¬ ((xs.length : Int) = (bs.length : Int)) := by omega
    have hno : Hid (xs ≠ bs) := fun e => hne (by rw [e])
    go_enter Try.func46, Try.ntmps46
    go_wp2
    go_ret
    exact ⟨by rw [decide_eq_false hno.out]; rfl, Quiet.refl _⟩

end Go.Proofs.Ytanknjpcgceccaa

/- ref19.SameArgs: it tells whether two arguments are the same. (Printed by wip/tools/gen_same2.py.) -/
namespace Go.Proofs.Ytanknjpcgceccaa
open Go.RowKit

theorem ArgsV.eqb_all (x y : ArgsV) : eqb x y = true ↔ (x.file = y.file ∧ x.to = y.to ∧ x.name = y.name ∧ x.toName = y.toName ∧ x.path = y.path ∧ x.set = y.set ∧ x.guard = y.guard ∧ x.guardTime = y.guardTime ∧ x.access = y.access ∧ x.offset = y.offset ∧ x.count = y.count ∧ x.stable = y.stable ∧ x.mode = y.mode ∧ x.type = y.type ∧ x.data = y.data ∧ x.verf = y.verf ∧ x.cookie = y.cookie ∧ x.cookieVerf = y.cookieVerf ∧ x.dirCount = y.dirCount ∧ x.maxCount = y.maxCount ∧ x.spec1 = y.spec1 ∧ x.spec2 = y.spec2) := by
  rw [eqb_iff]; cases x; cases y; simp

set_option maxRecDepth 100000 in
set_option maxHeartbeats 2000000 in
theorem refSameArgs_any (x y : ArgsV) (xo yo : Option Addr) (xc yc : Nat) (w : World) (hx : SlB w xo xc x.data) (hy : SlB w yo yc y.data) :
    Calls Try.prog 14 #[.agg (x.cells (.slice xo x.data.length xc)).toArray, .agg (y.cells (.slice yo y.data.length yc)).toArray] w fun e w' => e = .returned (.bool (eqb x y)) ∧ Mods (fun _ => False) w w' := by
  have HX0 := hid hx; have HY0 := hid hy; clear hx hy
  obtain ⟨A, hAe⟩ : ∃ A, A = (x.cells (.slice xo x.data.length xc)).toArray := ⟨_, rfl⟩
  obtain ⟨B, hBe⟩ : ∃ B, B = (y.cells (.slice yo y.data.length yc)).toArray := ⟨_, rfl⟩
  rw [← hAe, ← hBe]
  have HA := hid hAe; have HB := hid hBe
  have hA1 : A[0]? = some (.string (str x.file)) := by rw [hAe]; rfl
  have hB1 : B[0]? = some (.string (str y.file)) := by rw [hBe]; rfl
  clear hAe hBe
  go_enter Try.func14, Try.ntmps14
  go_upto_region 1 with fail
  refine wp_region_list ?_
  have hA0 : ((w.alloc (.cells A 30)).alloc (.cells B 30)).rangeAt w.heap.size 0 A.toList := rangeAt_keep (by have h := rangeAt_new w A.toList 30; simpa using h) (Mods.alloc (fun _ => False) _ _) (fun h => h)
  have hB0 : ((w.alloc (.cells A 30)).alloc (.cells B 30)).rangeAt (w.heap.size + 1) 0 B.toList := by
    have h := rangeAt_new (w.alloc (.cells A 30)) B.toList 30
    simpa using h
  have hm : Mods (fun _ => False) w ((w.alloc (.cells A 30)).alloc (.cells B 30)) := (Mods.alloc _ _ _).trans (Mods.alloc _ _ _)
  generalize (w.alloc (.cells A 30)).alloc (.cells B 30) = w1 at hA0 hB0 hm ⊢
  have HX := hid (HX0.out.keep hm fun _ _ h => h)
  have HY := hid (HY0.out.keep hm fun _ _ h => h)
  rw [HA.out, List.toList_toArray] at hA0
  rw [HB.out, List.toList_toArray] at hB0
  clear HX0 HY0
  have hI : ∀ a : Act, a.tmps.size = 159 ∧ a.defers = [] ∧ a.tmps[2]? = some (.pointer (some ⟨w.heap.size, 0, none⟩)) ∧ a.tmps[3]? = some (.pointer (some ⟨w.heap.size + 1, 0, none⟩)) ∧ a.tmps[4]? = some (.bool false) →
      Inv a 159 2 3 (.pointer (some ⟨w.heap.size, 0, none⟩)) (.pointer (some ⟨w.heap.size + 1, 0, none⟩)) 4 false := fun a ⟨h1, h2, h3, h4, h5⟩ => ⟨h1, h2, h3, h4, h5⟩
  generalize ga : (Act.mk _ _) = a0
  have hI := hI a0 (by rw [← ga]; exact ⟨rfl, rfl, rfl, rfl, rfl⟩)
  clear ga
  generalize w.heap.size = g at hI hA0 hB0
  refine ch_first (p1 := .pointer (some ⟨g, 0, none⟩)) (p2 := .pointer (some ⟨(g + 1), 0, none⟩)) hI (by go_simp) (load_str w1 g 0 _ (rangeAt_sub hA0 1 _ rfl)) (by go_simp) (load_str w1 (g + 1) 0 _ (rangeAt_sub hB0 1 _ rfl)) (eql_str w1 _ _ x.file y.file) (by decide) (by decide) fun a hI => ?_
  refine ch_link (isAnd := true) (p1 := .pointer (some ⟨g, 1, none⟩)) (p2 := .pointer (some ⟨(g + 1), 1, none⟩)) hI rfl (by go_simp) (load_str w1 g 1 _ (rangeAt_sub hA0 1 _ rfl)) (by go_simp) (load_str w1 (g + 1) 1 _ (rangeAt_sub hB0 1 _ rfl)) (eql_str w1 _ _ x.to y.to) rfl rfl rfl (.inl rfl) (by decide) (by decide) fun a hI => ?_
  refine ch_link (isAnd := true) (p1 := .pointer (some ⟨g, 2, none⟩)) (p2 := .pointer (some ⟨(g + 1), 2, none⟩)) hI rfl (by go_simp) (load_str w1 g 2 _ (rangeAt_sub hA0 1 _ rfl)) (by go_simp) (load_str w1 (g + 1) 2 _ (rangeAt_sub hB0 1 _ rfl)) (eql_str w1 _ _ x.name y.name) rfl rfl rfl (.inl rfl) (by decide) (by decide) fun a hI => ?_
  refine ch_link (isAnd := true) (p1 := .pointer (some ⟨g, 3, none⟩)) (p2 := .pointer (some ⟨(g + 1), 3, none⟩)) hI rfl (by go_simp) (load_str w1 g 3 _ (rangeAt_sub hA0 1 _ rfl)) (by go_simp) (load_str w1 (g + 1) 3 _ (rangeAt_sub hB0 1 _ rfl)) (eql_str w1 _ _ x.toName y.toName) rfl rfl rfl (.inl rfl) (by decide) (by decide) fun a hI => ?_
  refine ch_link (isAnd := true) (p1 := .pointer (some ⟨g, 4, none⟩)) (p2 := .pointer (some ⟨(g + 1), 4, none⟩)) hI rfl (by go_simp) (load_str w1 g 4 _ (rangeAt_sub hA0 1 _ rfl)) (by go_simp) (load_str w1 (g + 1) 4 _ (rangeAt_sub hB0 1 _ rfl)) (eql_str w1 _ _ x.path y.path) rfl rfl rfl (.inl rfl) (by decide) (by decide) fun a hI => ?_
  refine ch_link (isAnd := true) (p1 := .pointer (some ⟨g, 5, none⟩)) (p2 := .pointer (some ⟨(g + 1), 5, none⟩)) hI rfl (by go_simp) (load_SattrV w1 g 5 x.set (rangeAt_sub hA0 14 _ rfl)) (by go_simp) (load_SattrV w1 (g + 1) 5 y.set (rangeAt_sub hB0 14 _ rfl)) (eql_SattrV w1 _ _ x.set y.set) rfl rfl rfl (.inl rfl) (by decide) (by decide) fun a hI => ?_
  refine ch_link (isAnd := true) (p1 := .pointer (some ⟨g, 19, none⟩)) (p2 := .pointer (some ⟨(g + 1), 19, none⟩)) hI rfl (by go_simp) (load_bool w1 g 19 _ (rangeAt_sub hA0 1 _ rfl)) (by go_simp) (load_bool w1 (g + 1) 19 _ (rangeAt_sub hB0 1 _ rfl)) (eql_bool w1 _ _ x.guard y.guard) rfl rfl rfl (.inl rfl) (by decide) (by decide) fun a hI => ?_
  refine ch_link (isAnd := true) (p1 := .pointer (some ⟨g, 20, none⟩)) (p2 := .pointer (some ⟨(g + 1), 20, none⟩)) hI rfl (by go_simp) (load_TimeV w1 g 20 x.guardTime (rangeAt_sub hA0 2 _ rfl)) (by go_simp) (load_TimeV w1 (g + 1) 20 y.guardTime (rangeAt_sub hB0 2 _ rfl)) (eql_TimeV w1 _ _ x.guardTime y.guardTime) rfl rfl rfl (.inl rfl) (by decide) (by decide) fun a hI => ?_
  refine ch_link (isAnd := true) (p1 := .pointer (some ⟨g, 22, none⟩)) (p2 := .pointer (some ⟨(g + 1), 22, none⟩)) hI rfl (by go_simp) (load_u32 w1 g 22 _ (rangeAt_sub hA0 1 _ rfl)) (by go_simp) (load_u32 w1 (g + 1) 22 _ (rangeAt_sub hB0 1 _ rfl)) (eql_u32 w1 _ _ x.access y.access) rfl rfl rfl (.inl rfl) (by decide) (by decide) fun a hI => ?_
  refine ch_link (isAnd := true) (p1 := .pointer (some ⟨g, 23, none⟩)) (p2 := .pointer (some ⟨(g + 1), 23, none⟩)) hI rfl (by go_simp) (load_u64 w1 g 23 _ (rangeAt_sub hA0 1 _ rfl)) (by go_simp) (load_u64 w1 (g + 1) 23 _ (rangeAt_sub hB0 1 _ rfl)) (eql_u64 w1 _ _ x.offset y.offset) rfl rfl rfl (.inl rfl) (by decide) (by decide) fun a hI => ?_
  refine ch_link (isAnd := true) (p1 := .pointer (some ⟨g, 24, none⟩)) (p2 := .pointer (some ⟨(g + 1), 24, none⟩)) hI rfl (by go_simp) (load_u32 w1 g 24 _ (rangeAt_sub hA0 1 _ rfl)) (by go_simp) (load_u32 w1 (g + 1) 24 _ (rangeAt_sub hB0 1 _ rfl)) (eql_u32 w1 _ _ x.count y.count) rfl rfl rfl (.inl rfl) (by decide) (by decide) fun a hI => ?_
  refine ch_link (isAnd := true) (p1 := .pointer (some ⟨g, 25, none⟩)) (p2 := .pointer (some ⟨(g + 1), 25, none⟩)) hI rfl (by go_simp) (load_int w1 g 25 _ (rangeAt_sub hA0 1 _ rfl)) (by go_simp) (load_int w1 (g + 1) 25 _ (rangeAt_sub hB0 1 _ rfl)) (eql_int w1 _ _ x.stable y.stable) rfl rfl rfl (.inl rfl) (by decide) (by decide) fun a hI => ?_
  refine ch_link (isAnd := true) (p1 := .pointer (some ⟨g, 26, none⟩)) (p2 := .pointer (some ⟨(g + 1), 26, none⟩)) hI rfl (by go_simp) (load_int w1 g 26 _ (rangeAt_sub hA0 1 _ rfl)) (by go_simp) (load_int w1 (g + 1) 26 _ (rangeAt_sub hB0 1 _ rfl)) (eql_int w1 _ _ x.mode y.mode) rfl rfl rfl (.inl rfl) (by decide) (by decide) fun a hI => ?_
  refine ch_link (isAnd := true) (p1 := .pointer (some ⟨g, 27, none⟩)) (p2 := .pointer (some ⟨(g + 1), 27, none⟩)) hI rfl (by go_simp) (load_int w1 g 27 _ (rangeAt_sub hA0 1 _ rfl)) (by go_simp) (load_int w1 (g + 1) 27 _ (rangeAt_sub hB0 1 _ rfl)) (eql_int w1 _ _ x.type y.type) rfl rfl rfl (.inl rfl) (by decide) (by decide) fun a hI => ?_
  refine ch_linkG (isAnd := true) [_, _, _, _, _, _, _] (fun w' => w' = w1) (b := eqb x.data y.data) hI rfl rfl (by
    intro o ho
    simp only [List.mem_cons, List.not_mem_nil, or_false] at ho
    rcases ho with rfl | rfl | rfl | rfl | rfl | rfl | rfl <;> exact ⟨rfl, _, rfl, by decide⟩) rfl rfl rfl (.inl rfl) (by decide) (fun hg K hK hK2 => ?_) (fun a w' hw hI => ?_)
  · refine ch_load (p1 := .pointer (some ⟨g, 28, none⟩)) hI hI.hp hg (by go_simp) (load_bytes w1 g 28 _ (rangeAt_sub hA0 1 _ rfl)) (by decide) fun a1 hI1 hv1 _ => ?_
    refine ch_val hI1 hg rfl rfl (v := .string (str x.data)) (by simp only [execOp, eval_tmp hv1, Sem.run_bind, run_conv HX.out]; rfl) (by decide) fun a2 hI2 hv2 _ => ?_
    refine ch_load (p1 := .pointer (some ⟨(g + 1), 28, none⟩)) hI2 hI2.hq hg (by go_simp) (load_bytes w1 (g + 1) 28 _ (rangeAt_sub hB0 1 _ rfl)) (by decide) fun a3 hI3 hv3 hk3 => ?_
    have hv2' := hk3 _ _ (by decide) (by decide) hv2
    refine ch_val hI3 hg rfl rfl (v := .string (str y.data)) (by simp only [execOp, eval_tmp hv3, Sem.run_bind, run_conv HY.out]; rfl) (by decide) fun a4 hI4 hv4 hk4 => ?_
    have hv2'' := hk4 _ _ (by decide) hv2'
    refine ch_val hI4 hg rfl rfl (v := .bool (eqb x.data y.data)) ?_ (by decide) fun a5 hI5 hv5 _ => ?_
    · simp only [execOp, eval_tmp hv2'', eval_tmp hv4]
      rw [Sem.run_bind, eql_str w1 _ _ x.data y.data]
      rfl
    · exact hK2 _ _ (hK _ _ rfl hI5 hv5)
  · have hw := hw.symm
    subst hw
    refine ch_link (isAnd := true) (p1 := .pointer (some ⟨g, 29, none⟩)) (p2 := .pointer (some ⟨(g + 1), 29, none⟩)) hI rfl (by go_simp) (load_u64 w1 g 29 _ (rangeAt_sub hA0 1 _ rfl)) (by go_simp) (load_u64 w1 (g + 1) 29 _ (rangeAt_sub hB0 1 _ rfl)) (eql_u64 w1 _ _ x.verf y.verf) rfl rfl rfl (.inl rfl) (by decide) (by decide) fun a hI => ?_
    refine ch_link (isAnd := true) (p1 := .pointer (some ⟨g, 30, none⟩)) (p2 := .pointer (some ⟨(g + 1), 30, none⟩)) hI rfl (by go_simp) (load_u64 w1 g 30 _ (rangeAt_sub hA0 1 _ rfl)) (by go_simp) (load_u64 w1 (g + 1) 30 _ (rangeAt_sub hB0 1 _ rfl)) (eql_u64 w1 _ _ x.cookie y.cookie) rfl rfl rfl (.inl rfl) (by decide) (by decide) fun a hI => ?_
    refine ch_link (isAnd := true) (p1 := .pointer (some ⟨g, 31, none⟩)) (p2 := .pointer (some ⟨(g + 1), 31, none⟩)) hI rfl (by go_simp) (load_u64 w1 g 31 _ (rangeAt_sub hA0 1 _ rfl)) (by go_simp) (load_u64 w1 (g + 1) 31 _ (rangeAt_sub hB0 1 _ rfl)) (eql_u64 w1 _ _ x.cookieVerf y.cookieVerf) rfl rfl rfl (.inl rfl) (by decide) (by decide) fun a hI => ?_
    refine ch_link (isAnd := true) (p1 := .pointer (some ⟨g, 32, none⟩)) (p2 := .pointer (some ⟨(g + 1), 32, none⟩)) hI rfl (by go_simp) (load_u32 w1 g 32 _ (rangeAt_sub hA0 1 _ rfl)) (by go_simp) (load_u32 w1 (g + 1) 32 _ (rangeAt_sub hB0 1 _ rfl)) (eql_u32 w1 _ _ x.dirCount y.dirCount) rfl rfl rfl (.inl rfl) (by decide) (by decide) fun a hI => ?_
    refine ch_link (isAnd := true) (p1 := .pointer (some ⟨g, 33, none⟩)) (p2 := .pointer (some ⟨(g + 1), 33, none⟩)) hI rfl (by go_simp) (load_u32 w1 g 33 _ (rangeAt_sub hA0 1 _ rfl)) (by go_simp) (load_u32 w1 (g + 1) 33 _ (rangeAt_sub hB0 1 _ rfl)) (eql_u32 w1 _ _ x.maxCount y.maxCount) rfl rfl rfl (.inl rfl) (by decide) (by decide) fun a hI => ?_
    refine ch_link (isAnd := true) (p1 := .pointer (some ⟨g, 34, none⟩)) (p2 := .pointer (some ⟨(g + 1), 34, none⟩)) hI rfl (by go_simp) (load_u32 w1 g 34 _ (rangeAt_sub hA0 1 _ rfl)) (by go_simp) (load_u32 w1 (g + 1) 34 _ (rangeAt_sub hB0 1 _ rfl)) (eql_u32 w1 _ _ x.spec1 y.spec1) rfl rfl rfl (.inl rfl) (by decide) (by decide) fun a hI => ?_
    refine ch_link (isAnd := true) (p1 := .pointer (some ⟨g, 35, none⟩)) (p2 := .pointer (some ⟨(g + 1), 35, none⟩)) hI rfl (by go_simp) (load_u32 w1 g 35 _ (rangeAt_sub hA0 1 _ rfl)) (by go_simp) (load_u32 w1 (g + 1) 35 _ (rangeAt_sub hB0 1 _ rfl)) (eql_u32 w1 _ _ x.spec2 y.spec2) rfl rfl rfl (.inr rfl) (by decide) (by decide) fun a hI => ?_
    refine wpList_nil ?_
    have hres := hI.results
    have HI := hid hI
    clear hI
    go_wp2_with fail
    refine bodyPost_ret (results_tmp rfl _ _ _) HI.out.defers ?_
    refine ⟨?_, hm⟩
    rw [hres]
    refine congrArg (fun b => Ending.returned (.bool b)) (Bool.eq_iff_iff.2 ?_)
    rw [ArgsV.eqb_all]
    simp only [cond_true, Bool.and_eq_true, eqb_iff, and_assoc]

end Go.Proofs.Ytanknjpcgceccaa

/- nfsx.SameArgs: it tells whether two arguments are the same. (Printed by wip/tools/gen_same3.py.) -/
namespace Go.Proofs.Ytanknjpcgceccaa
open Go.RowKit

theorem rangeAt_set {w : World} {h j : Nat} {l : List Value} (hr : w.rangeAt h 0 l) (v : Value) : (w.setCell ⟨h, j, none⟩ v).rangeAt h 0 (l.set j v) := fun i u hi => by
  have hlt : i < l.length := by have := (List.getElem?_eq_some_iff.1 hi).1; simpa using this
  have hc := hr i l[i] (by simp [hlt])
  by_cases e : j = i
  · subst e
    rw [List.getElem?_set_self hlt] at hi
    have := Option.some.inj hi
    subst this
    simpa using World.cell?_setCell_same w ⟨h, j, none⟩ _ (by simpa using hc)
  · rw [List.getElem?_set_ne e] at hi
    rw [World.cell?_setCell_other _ _ _ _ (fun e2 => by have h5 : j = 0 + i := congrArg Addr.off e2; omega)]
    exact hr i u hi

theorem ch_nil {ops : Array Oper} {Q : Exit → Act → World → Prop} {rest : List Oper} {a : Act} {w : World} {n p q m : Nat} {k : Bool} {pp qq : Value} {d x : Nat} {h o i T : Nat} {y1 y2 : TypeId} {s1 s2 : String} {e1 e2 : Array Edge}
    (hI : Inv a n p q pp qq m k) (hx : a.tmps[x]? = some (.pointer (some ⟨h, 0, none⟩))) (hd : (d ≠ p ∧ d ≠ q ∧ d ≠ m) ∧ d < n)
    (hF : (Instr.fieldAt T (.pointer (some ⟨h, 0, none⟩)) i).run Try.prog w = .ok (.pointer (some ⟨h, o, none⟩)) w)
    (hc : (w.cell? ⟨h, o, none⟩).isSome = true) (hf : w.frozen? ⟨h, o, none⟩ = false)
    (hn : ∀ a', Inv a' n p q pp qq m k → wpList Try.prog ops Q rest a' (w.setCell ⟨h, o, none⟩ (.slice none 0 0))) :
    wpList Try.prog ops Q (⟨some d, .fieldAddr T (.tmp x) i, y1, s1, e1, none⟩ :: ⟨none, .store 22 (.tmp d) (.const (.slice none 0 0)), y2, s2, e2, none⟩ :: rest) a w := by
  refine wpList_val (v := .pointer (some ⟨h, o, none⟩)) rfl (by simp [execOp, eval_tmp hx, hF]) ?_
  have hv : (a.put (some d) (.pointer (some ⟨h, o, none⟩))).tmps[d]? = some (.pointer (some ⟨h, o, none⟩)) := put_at hI.size hd.2
  unfold wpList
  rw [if_pos (show Region.wanted _ _ = true from rfl)]
  refine .inl ?_
  unfold Oper.wp
  obtain ⟨u, hu⟩ := Option.isSome_iff_exists.1 hc
  have hst : (Instr.storeAt 22 (.pointer (some ⟨h, o, none⟩)) (.slice none 0 0)).run Try.prog w = .ok () (w.setCell ⟨h, o, none⟩ (.slice none 0 0)) := by
    clear hn hF
    go_simp
  have hrun : ∀ a : Act, a.eval (.tmp d) = .pointer (some ⟨h, o, none⟩) → (execOp a.eval ⟨none, .store 22 (.tmp d) (.const (.slice none 0 0)), y2, s2, e2, none⟩).run Try.prog w = .ok .skip (w.setCell ⟨h, o, none⟩ (.slice none 0 0)) := by
    intro a ha
    simp only [execOp, ha, Sem.run_bind]
    rw [show a.eval (.const (.slice none 0 0)) = .slice none 0 0 from rfl, hst]
    rfl
  rw [hrun _ (eval_tmp hv), Oper.upon_skip]
  exact hn _ (hI.put hd.1)

def chk6 (r : Array Bool → List Nat) : Bool := [false, true].all fun b0 => [false, true].all fun b1 => [false, true].all fun b2 => [false, true].all fun b3 => [false, true].all fun b4 => [false, true].all fun b5 =>
  (!(r #[b0, b1, b2, b3, b4, b5]).contains 4 || (b0 && b2)) && (!(r #[b0, b1, b2, b3, b4, b5]).contains 5 || (b1 && b3)) && (!(r #[b0, b1, b2, b3, b4, b5]).isEmpty || (b0 && b1 && b2 && b3 && b4 && b5))
theorem dep6 (ops : Array Oper) (h : chk6 (Region.ready .any ops) = true) :
    ∀ listed : Array Bool, listed.size = 6 → (4 ∈ Region.ready .any ops listed → listed[0]? = some true ∧ listed[2]? = some true) ∧ (5 ∈ Region.ready .any ops listed → listed[1]? = some true ∧ listed[3]? = some true) ∧
      (Region.ready .any ops listed = [] → ∀ i, i < 6 → listed[i]? = some true) := by
  rintro ⟨l⟩ hs
  match l, hs with
  | [b0, b1, b2, b3, b4, b5], _ =>
    have hb : ∀ b : Bool, b ∈ [false, true] := fun b => by cases b <;> simp
    simp only [chk6, List.all_eq_true] at h
    have h6 := h b0 (hb _) b1 (hb _) b2 (hb _) b3 (hb _) b4 (hb _) b5 (hb _)
    simp only [Bool.and_eq_true, Bool.or_eq_true, Bool.not_eq_true', List.isEmpty_eq_false_iff] at h6
    obtain ⟨⟨h1, h2⟩, h3⟩ := h6
    refine ⟨fun h => ?_, fun h => ?_, fun h i hi => ?_⟩
    · have := h1.resolve_left (by simpa using h)
      simpa using this
    · have := h2.resolve_left (by simpa using h)
      simpa using this
    · obtain ⟨⟨⟨⟨⟨q0, q1⟩, q2⟩, q3⟩, q4⟩, q5⟩ := h3.resolve_left (by simpa using h)
      match i, hi with
      | 0, _ => simpa using q0
      | 1, _ => simpa using q1
      | 2, _ => simpa using q2
      | 3, _ => simpa using q3
      | 4, _ => simpa using q4
      | 5, _ => simpa using q5

set_option maxRecDepth 100000 in
set_option maxHeartbeats 4000000 in
theorem nfsxSameArgs_any (x y : ArgsV) (xo yo : Option Addr) (xc yc : Nat) (w : World) (hx : SlB w xo xc x.data) (hy : SlB w yo yc y.data) (hlx : x.data.length ≤ 9223372036854775807) (hly : y.data.length ≤ 9223372036854775807) :
    Calls Try.prog 15 #[.agg (x.cells (.slice xo x.data.length xc)).toArray, .agg (y.cells (.slice yo y.data.length yc)).toArray] w fun e w' => e = .returned (.bool (eqb x y)) ∧ Mods (fun _ => False) w w' := by
  have HX0 := hid hx; have HY0 := hid hy; clear hx hy
  have HL := hid (And.intro hlx hly); clear hlx hly
  obtain ⟨A, hAe⟩ : ∃ A, A = (x.cells (.slice xo x.data.length xc)).toArray := ⟨_, rfl⟩
  obtain ⟨B, hBe⟩ : ∃ B, B = (y.cells (.slice yo y.data.length yc)).toArray := ⟨_, rfl⟩
  rw [← hAe, ← hBe]
  have HA := hid hAe; have HB := hid hBe
  have hA1 : A[28]? = some (.slice xo x.data.length xc) := by rw [hAe]; rfl
  have hB1 : B[28]? = some (.slice yo y.data.length yc) := by rw [hBe]; rfl
  clear hAe hBe
  go_enter Try.func15, Try.ntmps15
  go_wp2_with fail
  have hA0 : ((w.alloc (.cells A 30)).alloc (.cells B 30)).rangeAt w.heap.size 0 A.toList := rangeAt_keep (by have h := rangeAt_new w A.toList 30; simpa using h) (Mods.alloc (fun _ => False) _ _) (fun h => h)
  have hB0 : ((w.alloc (.cells A 30)).alloc (.cells B 30)).rangeAt (w.heap.size + 1) 0 B.toList := by
    have h := rangeAt_new (w.alloc (.cells A 30)) B.toList 30
    simpa using h
  have hm : Mods (fun _ => False) w ((w.alloc (.cells A 30)).alloc (.cells B 30)) := (Mods.alloc _ _ _).trans (Mods.alloc _ _ _)
  generalize (w.alloc (.cells A 30)).alloc (.cells B 30) = w1 at hA0 hB0 hm ⊢
  refine (EqualB_any _ _ _ _ _ _ w1 (HX0.out.keep hm fun _ _ h => h) (HY0.out.keep hm fun _ _ h => h) HL.out.1 HL.out.2).mono ?_
  rintro e w2 ⟨rfl, hq⟩
  have hm2 : Mods (fun _ => False) w1 w2 := Quiet.mods hq _
  rw [HA.out, List.toList_toArray] at hA0
  rw [HB.out, List.toList_toArray] at hB0
  have HA2 := hid (rangeAt_keep hA0 hm2 (fun h => h))
  have HB2 := hid (rangeAt_keep hB0 hm2 (fun h => h))
  have HM := hid (hm.trans hm2)
  clear hA0 hB0 hm hm2 hq HX0 HY0 hA1 hB1
  by_cases hdata : x.data = y.data
  · rw [decide_eq_true hdata]
    have HD := hid hdata
    clear hdata
    go_wp2_with fail
    refine wp_copy2 (n := 162) (N := 36) (s13 := 13) (s14 := 14) (s5 := 5) (s6 := 6) (g0 := w.heap.size) (g1 := w.heap.size + 1) (by kernel_rfl) rfl rfl rfl rfl rfl rfl rfl (dep6 _ (by kernel_rfl)) (by decide) ⟨rfl, rfl, rfl, rfl, rfl⟩ HA2.out HB2.out
      Try.underlying30 rfl (by kernel_rfl) (Z := ?Z) ?hZl rfl rfl (by decide) ?ha1 ?hb1 ?hz ?_
    case hz => intro w; go_simp; exact rfl
    case hZl => rfl
    case ha1 => simp [ArgsV.cells, SattrV.cells, TimeV.cells, Value.oneCell']
    case hb1 => simp [ArgsV.cells, SattrV.cells, TimeV.cells, Value.oneCell']
    intro a w3 h0 h1 hI hm3 hr0 hr1 ht0 ht1 hne hl0 hl1
    have HM3 := hid (HM.out.trans hm3)
    have hl0' : w.heap.size ≤ h0 := Nat.le_trans HM.out.size hl0
    have hl1' : w.heap.size ≤ h1 := Nat.le_trans HM.out.size hl1
    clear HA2 HB2 HM hm3
    go_upto_region 4 with fail
    refine wp_region_list ?_
    refine ch_nil (h := h0) (o := 28) hI hI.hp (by decide) (by go_simp) (by simpa using (ht0 28 (by decide)).1) (by simpa using (ht0 28 (by decide)).2) fun a hI => ?_
    have hr0' : (w3.setCell ⟨h0, 28, none⟩ (.slice none 0 0)).rangeAt h0 0 (x.cells (.slice none 0 0)) := rangeAt_set hr0 _
    have hms : Mods (fun k => k = h0) w3 (w3.setCell ⟨h0, 28, none⟩ (.slice none 0 0)) := Mods.setCell (F := fun k => k = h0) (a := ⟨h0, 28, none⟩) rfl _
    have hr1' := rangeAt_keep hr1 hms (Ne.symm hne)
    have ht1' := there_keep ht1 hms (Ne.symm hne)
    have HM4 := hid (HM3.out.step hms fun k hk e => absurd hk (by omega))
    generalize w3.setCell ⟨h0, 28, none⟩ (.slice none 0 0) = w4 at hr0' hr1' ht1' HM4 ⊢
    refine ch_nil (h := h1) (o := 28) hI hI.hq (by decide) (by go_simp) (by simpa using (ht1' 28 (by decide)).1) (by simpa using (ht1' 28 (by decide)).2) fun a hI => ?_
    have hB0 : (w4.setCell ⟨h1, 28, none⟩ (.slice none 0 0)).rangeAt h1 0 (y.cells (.slice none 0 0)) := rangeAt_set hr1' _
    have hms2 : Mods (fun k => k = h1) w4 (w4.setCell ⟨h1, 28, none⟩ (.slice none 0 0)) := Mods.setCell (F := fun k => k = h1) (a := ⟨h1, 28, none⟩) rfl _
    have hA0 := rangeAt_keep hr0' hms2 hne
    have HM5 := hid (HM4.out.step hms2 fun k hk e => absurd hk (by omega))
    generalize w4.setCell ⟨h1, 28, none⟩ (.slice none 0 0) = w1 at hA0 hB0 HM5 ⊢
    clear hr0 hr1 ht0 ht1 hr0' hr1' ht1' hms hms2 HM3 HM4
    refine wpList_nil ?_
    go_upto_region 5 with fail
    refine wp_region_list ?_
    refine ch_first (p1 := .pointer (some ⟨h0, 0, none⟩)) (p2 := .pointer (some ⟨h1, 0, none⟩)) hI (by go_simp) (load_str w1 h0 0 _ (rangeAt_sub hA0 1 _ rfl)) (by go_simp) (load_str w1 h1 0 _ (rangeAt_sub hB0 1 _ rfl)) (eql_str w1 _ _ x.file y.file) (by decide) (by decide) fun a hI => ?_
    refine ch_link (isAnd := true) (p1 := .pointer (some ⟨h0, 1, none⟩)) (p2 := .pointer (some ⟨h1, 1, none⟩)) hI rfl (by go_simp) (load_str w1 h0 1 _ (rangeAt_sub hA0 1 _ rfl)) (by go_simp) (load_str w1 h1 1 _ (rangeAt_sub hB0 1 _ rfl)) (eql_str w1 _ _ x.to y.to) rfl rfl rfl (.inl rfl) (by decide) (by decide) fun a hI => ?_
    refine ch_link (isAnd := true) (p1 := .pointer (some ⟨h0, 2, none⟩)) (p2 := .pointer (some ⟨h1, 2, none⟩)) hI rfl (by go_simp) (load_str w1 h0 2 _ (rangeAt_sub hA0 1 _ rfl)) (by go_simp) (load_str w1 h1 2 _ (rangeAt_sub hB0 1 _ rfl)) (eql_str w1 _ _ x.name y.name) rfl rfl rfl (.inl rfl) (by decide) (by decide) fun a hI => ?_
    refine ch_link (isAnd := true) (p1 := .pointer (some ⟨h0, 3, none⟩)) (p2 := .pointer (some ⟨h1, 3, none⟩)) hI rfl (by go_simp) (load_str w1 h0 3 _ (rangeAt_sub hA0 1 _ rfl)) (by go_simp) (load_str w1 h1 3 _ (rangeAt_sub hB0 1 _ rfl)) (eql_str w1 _ _ x.toName y.toName) rfl rfl rfl (.inl rfl) (by decide) (by decide) fun a hI => ?_
    refine ch_link (isAnd := true) (p1 := .pointer (some ⟨h0, 4, none⟩)) (p2 := .pointer (some ⟨h1, 4, none⟩)) hI rfl (by go_simp) (load_str w1 h0 4 _ (rangeAt_sub hA0 1 _ rfl)) (by go_simp) (load_str w1 h1 4 _ (rangeAt_sub hB0 1 _ rfl)) (eql_str w1 _ _ x.path y.path) rfl rfl rfl (.inl rfl) (by decide) (by decide) fun a hI => ?_
    refine ch_link (isAnd := true) (p1 := .pointer (some ⟨h0, 5, none⟩)) (p2 := .pointer (some ⟨h1, 5, none⟩)) hI rfl (by go_simp) (load_SattrV w1 h0 5 x.set (rangeAt_sub hA0 14 _ rfl)) (by go_simp) (load_SattrV w1 h1 5 y.set (rangeAt_sub hB0 14 _ rfl)) (eql_SattrV w1 _ _ x.set y.set) rfl rfl rfl (.inl rfl) (by decide) (by decide) fun a hI => ?_
    refine ch_link (isAnd := true) (p1 := .pointer (some ⟨h0, 19, none⟩)) (p2 := .pointer (some ⟨h1, 19, none⟩)) hI rfl (by go_simp) (load_bool w1 h0 19 _ (rangeAt_sub hA0 1 _ rfl)) (by go_simp) (load_bool w1 h1 19 _ (rangeAt_sub hB0 1 _ rfl)) (eql_bool w1 _ _ x.guard y.guard) rfl rfl rfl (.inl rfl) (by decide) (by decide) fun a hI => ?_
    refine ch_link (isAnd := true) (p1 := .pointer (some ⟨h0, 20, none⟩)) (p2 := .pointer (some ⟨h1, 20, none⟩)) hI rfl (by go_simp) (load_TimeV w1 h0 20 x.guardTime (rangeAt_sub hA0 2 _ rfl)) (by go_simp) (load_TimeV w1 h1 20 y.guardTime (rangeAt_sub hB0 2 _ rfl)) (eql_TimeV w1 _ _ x.guardTime y.guardTime) rfl rfl rfl (.inl rfl) (by decide) (by decide) fun a hI => ?_
    refine ch_link (isAnd := true) (p1 := .pointer (some ⟨h0, 22, none⟩)) (p2 := .pointer (some ⟨h1, 22, none⟩)) hI rfl (by go_simp) (load_u32 w1 h0 22 _ (rangeAt_sub hA0 1 _ rfl)) (by go_simp) (load_u32 w1 h1 22 _ (rangeAt_sub hB0 1 _ rfl)) (eql_u32 w1 _ _ x.access y.access) rfl rfl rfl (.inl rfl) (by decide) (by decide) fun a hI => ?_
    refine ch_link (isAnd := true) (p1 := .pointer (some ⟨h0, 23, none⟩)) (p2 := .pointer (some ⟨h1, 23, none⟩)) hI rfl (by go_simp) (load_u64 w1 h0 23 _ (rangeAt_sub hA0 1 _ rfl)) (by go_simp) (load_u64 w1 h1 23 _ (rangeAt_sub hB0 1 _ rfl)) (eql_u64 w1 _ _ x.offset y.offset) rfl rfl rfl (.inl rfl) (by decide) (by decide) fun a hI => ?_
    refine ch_link (isAnd := true) (p1 := .pointer (some ⟨h0, 24, none⟩)) (p2 := .pointer (some ⟨h1, 24, none⟩)) hI rfl (by go_simp) (load_u32 w1 h0 24 _ (rangeAt_sub hA0 1 _ rfl)) (by go_simp) (load_u32 w1 h1 24 _ (rangeAt_sub hB0 1 _ rfl)) (eql_u32 w1 _ _ x.count y.count) rfl rfl rfl (.inl rfl) (by decide) (by decide) fun a hI => ?_
    refine ch_link (isAnd := true) (p1 := .pointer (some ⟨h0, 25, none⟩)) (p2 := .pointer (some ⟨h1, 25, none⟩)) hI rfl (by go_simp) (load_int w1 h0 25 _ (rangeAt_sub hA0 1 _ rfl)) (by go_simp) (load_int w1 h1 25 _ (rangeAt_sub hB0 1 _ rfl)) (eql_int w1 _ _ x.stable y.stable) rfl rfl rfl (.inl rfl) (by decide) (by decide) fun a hI => ?_
    refine ch_link (isAnd := true) (p1 := .pointer (some ⟨h0, 26, none⟩)) (p2 := .pointer (some ⟨h1, 26, none⟩)) hI rfl (by go_simp) (load_int w1 h0 26 _ (rangeAt_sub hA0 1 _ rfl)) (by go_simp) (load_int w1 h1 26 _ (rangeAt_sub hB0 1 _ rfl)) (eql_int w1 _ _ x.mode y.mode) rfl rfl rfl (.inl rfl) (by decide) (by decide) fun a hI => ?_
    refine ch_link (isAnd := true) (p1 := .pointer (some ⟨h0, 27, none⟩)) (p2 := .pointer (some ⟨h1, 27, none⟩)) hI rfl (by go_simp) (load_int w1 h0 27 _ (rangeAt_sub hA0 1 _ rfl)) (by go_simp) (load_int w1 h1 27 _ (rangeAt_sub hB0 1 _ rfl)) (eql_int w1 _ _ x.type y.type) rfl rfl rfl (.inl rfl) (by decide) (by decide) fun a hI => ?_
    refine ch_link (isAnd := true) (p1 := .pointer (some ⟨h0, 29, none⟩)) (p2 := .pointer (some ⟨h1, 29, none⟩)) hI rfl (by go_simp) (load_u64 w1 h0 29 _ (rangeAt_sub hA0 1 _ rfl)) (by go_simp) (load_u64 w1 h1 29 _ (rangeAt_sub hB0 1 _ rfl)) (eql_u64 w1 _ _ x.verf y.verf) rfl rfl rfl (.inl rfl) (by decide) (by decide) fun a hI => ?_
    refine ch_link (isAnd := true) (p1 := .pointer (some ⟨h0, 30, none⟩)) (p2 := .pointer (some ⟨h1, 30, none⟩)) hI rfl (by go_simp) (load_u64 w1 h0 30 _ (rangeAt_sub hA0 1 _ rfl)) (by go_simp) (load_u64 w1 h1 30 _ (rangeAt_sub hB0 1 _ rfl)) (eql_u64 w1 _ _ x.cookie y.cookie) rfl rfl rfl (.inl rfl) (by decide) (by decide) fun a hI => ?_
    refine ch_link (isAnd := true) (p1 := .pointer (some ⟨h0, 31, none⟩)) (p2 := .pointer (some ⟨h1, 31, none⟩)) hI rfl (by go_simp) (load_u64 w1 h0 31 _ (rangeAt_sub hA0 1 _ rfl)) (by go_simp) (load_u64 w1 h1 31 _ (rangeAt_sub hB0 1 _ rfl)) (eql_u64 w1 _ _ x.cookieVerf y.cookieVerf) rfl rfl rfl (.inl rfl) (by decide) (by decide) fun a hI => ?_
    refine ch_link (isAnd := true) (p1 := .pointer (some ⟨h0, 32, none⟩)) (p2 := .pointer (some ⟨h1, 32, none⟩)) hI rfl (by go_simp) (load_u32 w1 h0 32 _ (rangeAt_sub hA0 1 _ rfl)) (by go_simp) (load_u32 w1 h1 32 _ (rangeAt_sub hB0 1 _ rfl)) (eql_u32 w1 _ _ x.dirCount y.dirCount) rfl rfl rfl (.inl rfl) (by decide) (by decide) fun a hI => ?_
    refine ch_link (isAnd := true) (p1 := .pointer (some ⟨h0, 33, none⟩)) (p2 := .pointer (some ⟨h1, 33, none⟩)) hI rfl (by go_simp) (load_u32 w1 h0 33 _ (rangeAt_sub hA0 1 _ rfl)) (by go_simp) (load_u32 w1 h1 33 _ (rangeAt_sub hB0 1 _ rfl)) (eql_u32 w1 _ _ x.maxCount y.maxCount) rfl rfl rfl (.inl rfl) (by decide) (by decide) fun a hI => ?_
    refine ch_link (isAnd := true) (p1 := .pointer (some ⟨h0, 34, none⟩)) (p2 := .pointer (some ⟨h1, 34, none⟩)) hI rfl (by go_simp) (load_u32 w1 h0 34 _ (rangeAt_sub hA0 1 _ rfl)) (by go_simp) (load_u32 w1 h1 34 _ (rangeAt_sub hB0 1 _ rfl)) (eql_u32 w1 _ _ x.spec1 y.spec1) rfl rfl rfl (.inl rfl) (by decide) (by decide) fun a hI => ?_
    refine ch_link (isAnd := true) (p1 := .pointer (some ⟨h0, 35, none⟩)) (p2 := .pointer (some ⟨h1, 35, none⟩)) hI rfl (by go_simp) (load_u32 w1 h0 35 _ (rangeAt_sub hA0 1 _ rfl)) (by go_simp) (load_u32 w1 h1 35 _ (rangeAt_sub hB0 1 _ rfl)) (eql_u32 w1 _ _ x.spec2 y.spec2) rfl rfl rfl (.inr rfl) (by decide) (by decide) fun a hI => ?_
    refine wpList_nil ?_
    have hres := hI.results
    have HI := hid hI
    clear hI
    go_wp2_with fail
    refine bodyPost_ret (results_tmp rfl _ _ _) HI.out.defers ?_
    refine ⟨?_, HM5.out⟩
    rw [hres]
    refine congrArg (fun b => Ending.returned (.bool b)) (Bool.eq_iff_iff.2 ?_)
    rw [ArgsV.eqb_all]
    have hdd : x.data = y.data := HD.out
    simp only [cond_true, Bool.and_eq_true, eqb_iff, and_assoc, hdd, true_and]
  · rw [decide_eq_false hdata]
    have hno : eqb x y = false := eqb_ne fun e => hdata (by rw [e])
    have HN := hid hno
    clear hdata HA2 HB2 hno
    go_wp2
    go_ret
    exact ⟨by rw [HN.out]; rfl, HM.out⟩

end Go.Proofs.Ytanknjpcgceccaa
