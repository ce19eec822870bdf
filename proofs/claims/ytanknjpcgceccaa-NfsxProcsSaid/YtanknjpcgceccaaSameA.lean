/- ref19.SameArgs: it tells whether two arguments are the same. (Printed by wip/tools/gen_same2.py.) -/
import Derived.Test.YtanknjpcgceccaaApi
import Derived.Test.YtanknjpcgceccaaChain
import Derived.Deep.Cut
namespace Go.Proofs.Ytanknjpcgceccaa
open Go.RowKit

theorem ArgsV.eqb_all (x y : ArgsV) : eqb x y = true ↔ (x.file = y.file ∧ x.to = y.to ∧ x.name = y.name ∧ x.toName = y.toName ∧ x.path = y.path ∧ x.set = y.set ∧ x.guard = y.guard ∧ x.guardTime = y.guardTime ∧ x.access = y.access ∧ x.offset = y.offset ∧ x.count = y.count ∧ x.stable = y.stable ∧ x.mode = y.mode ∧ x.type = y.type ∧ x.data = y.data ∧ x.verf = y.verf ∧ x.cookie = y.cookie ∧ x.cookieVerf = y.cookieVerf ∧ x.dirCount = y.dirCount ∧ x.maxCount = y.maxCount ∧ x.spec1 = y.spec1 ∧ x.spec2 = y.spec2) := by
  rw [eqb_iff]; cases x; cases y; simp

set_option maxRecDepth 100000 in
set_option maxHeartbeats 2000000 in
theorem refSameArgs_any (x y : ArgsV) (xo yo : Option Addr) (xc yc : Nat) (w : World) (hx : SlB w xo xc x.data) (hy : SlB w yo yc y.data) :
    Calls Try.prog 14 #[.agg (x.cells (.slice xo x.data.length xc)).toArray, .agg (y.cells (.slice yo y.data.length yc)).toArray] w fun e w' => e = .returned (.bool (eqb x y)) ∧ Mods (fun _ => False) w w' := by
  have HX0 := hid hx; have HY0 := hid hy; clear hx hy
  obtain ⟨A, hAe⟩ : ∃ A, A = (x.cells (.slice xo x.data.length xc)).toArray := ⟨_, rfl⟩
  obtain ⟨B, hBe⟩ : ∃ B, B = (y.cells (.slice yo y.data.length yc)).toArray := ⟨_, rfl⟩
  rw [← hAe, ← hBe]
  have HA := hid hAe; have HB := hid hBe
  have hA1 : A[0]? = some (.string (str x.file)) := by rw [hAe]; rfl
  have hB1 : B[0]? = some (.string (str y.file)) := by rw [hBe]; rfl
  clear hAe hBe
  go_enter Try.func14, Try.ntmps14
  go_upto_region 1 with fail
  refine wp_region_list ?_
  have hA0 : ((w.alloc (.cells A 30)).alloc (.cells B 30)).rangeAt w.heap.size 0 A.toList := rangeAt_keep (by have h := rangeAt_new w A.toList 30; simpa using h) (Mods.alloc (fun _ => False) _ _) (fun h => h)
  have hB0 : ((w.alloc (.cells A 30)).alloc (.cells B 30)).rangeAt (w.heap.size + 1) 0 B.toList := by
    have h := rangeAt_new (w.alloc (.cells A 30)) B.toList 30
    simpa using h
  have hm : Mods (fun _ => False) w ((w.alloc (.cells A 30)).alloc (.cells B 30)) := (Mods.alloc _ _ _).trans (Mods.alloc _ _ _)
  generalize (w.alloc (.cells A 30)).alloc (.cells B 30) = w1 at hA0 hB0 hm ⊢
  have HX := hid (HX0.out.keep hm fun _ _ h => h)
  have HY := hid (HY0.out.keep hm fun _ _ h => h)
  rw [HA.out, List.toList_toArray] at hA0
  rw [HB.out, List.toList_toArray] at hB0
  clear HX0 HY0
  have hI : ∀ a : Act, a.tmps.size = 159 ∧ a.defers = [] ∧ a.tmps[2]? = some (.pointer (some ⟨w.heap.size, 0, none⟩)) ∧ a.tmps[3]? = some (.pointer (some ⟨w.heap.size + 1, 0, none⟩)) ∧ a.tmps[4]? = some (.bool false) →
      Inv a 159 2 3 (.pointer (some ⟨w.heap.size, 0, none⟩)) (.pointer (some ⟨w.heap.size + 1, 0, none⟩)) 4 false := fun a ⟨h1, h2, h3, h4, h5⟩ => ⟨h1, h2, h3, h4, h5⟩
  generalize ga : (Act.mk _ _) = a0
  have hI := hI a0 (by rw [← ga]; exact ⟨rfl, rfl, rfl, rfl, rfl⟩)
  clear ga
  generalize w.heap.size = g at hI hA0 hB0
  refine ch_first (p1 := .pointer (some ⟨g, 0, none⟩)) (p2 := .pointer (some ⟨(g + 1), 0, none⟩)) hI (by go_simp) (load_str w1 g 0 _ (rangeAt_sub hA0 1 _ rfl)) (by go_simp) (load_str w1 (g + 1) 0 _ (rangeAt_sub hB0 1 _ rfl)) (eql_str w1 _ _ x.file y.file) (by decide) (by decide) fun a hI => ?_
  refine ch_link (isAnd := true) (p1 := .pointer (some ⟨g, 1, none⟩)) (p2 := .pointer (some ⟨(g + 1), 1, none⟩)) hI rfl (by go_simp) (load_str w1 g 1 _ (rangeAt_sub hA0 1 _ rfl)) (by go_simp) (load_str w1 (g + 1) 1 _ (rangeAt_sub hB0 1 _ rfl)) (eql_str w1 _ _ x.to y.to) rfl rfl rfl (.inl rfl) (by decide) (by decide) fun a hI => ?_
  refine ch_link (isAnd := true) (p1 := .pointer (some ⟨g, 2, none⟩)) (p2 := .pointer (some ⟨(g + 1), 2, none⟩)) hI rfl (by go_simp) (load_str w1 g 2 _ (rangeAt_sub hA0 1 _ rfl)) (by go_simp) (load_str w1 (g + 1) 2 _ (rangeAt_sub hB0 1 _ rfl)) (eql_str w1 _ _ x.name y.name) rfl rfl rfl (.inl rfl) (by decide) (by decide) fun a hI => ?_
  refine ch_link (isAnd := true) (p1 := .pointer (some ⟨g, 3, none⟩)) (p2 := .pointer (some ⟨(g + 1), 3, none⟩)) hI rfl (by go_simp) (load_str w1 g 3 _ (rangeAt_sub hA0 1 _ rfl)) (by go_simp) (load_str w1 (g + 1) 3 _ (rangeAt_sub hB0 1 _ rfl)) (eql_str w1 _ _ x.toName y.toName) rfl rfl rfl (.inl rfl) (by decide) (by decide) fun a hI => ?_
  refine ch_link (isAnd := true) (p1 := .pointer (some ⟨g, 4, none⟩)) (p2 := .pointer (some ⟨(g + 1), 4, none⟩)) hI rfl (by go_simp) (load_str w1 g 4 _ (rangeAt_sub hA0 1 _ rfl)) (by go_simp) (load_str w1 (g + 1) 4 _ (rangeAt_sub hB0 1 _ rfl)) (eql_str w1 _ _ x.path y.path) rfl rfl rfl (.inl rfl) (by decide) (by decide) fun a hI => ?_
  refine ch_link (isAnd := true) (p1 := .pointer (some ⟨g, 5, none⟩)) (p2 := .pointer (some ⟨(g + 1), 5, none⟩)) hI rfl (by go_simp) (load_SattrV w1 g 5 x.set (rangeAt_sub hA0 14 _ rfl)) (by go_simp) (load_SattrV w1 (g + 1) 5 y.set (rangeAt_sub hB0 14 _ rfl)) (eql_SattrV w1 _ _ x.set y.set) rfl rfl rfl (.inl rfl) (by decide) (by decide) fun a hI => ?_
  refine ch_link (isAnd := true) (p1 := .pointer (some ⟨g, 19, none⟩)) (p2 := .pointer (some ⟨(g + 1), 19, none⟩)) hI rfl (by go_simp) (load_bool w1 g 19 _ (rangeAt_sub hA0 1 _ rfl)) (by go_simp) (load_bool w1 (g + 1) 19 _ (rangeAt_sub hB0 1 _ rfl)) (eql_bool w1 _ _ x.guard y.guard) rfl rfl rfl (.inl rfl) (by decide) (by decide) fun a hI => ?_
  refine ch_link (isAnd := true) (p1 := .pointer (some ⟨g, 20, none⟩)) (p2 := .pointer (some ⟨(g + 1), 20, none⟩)) hI rfl (by go_simp) (load_TimeV w1 g 20 x.guardTime (rangeAt_sub hA0 2 _ rfl)) (by go_simp) (load_TimeV w1 (g + 1) 20 y.guardTime (rangeAt_sub hB0 2 _ rfl)) (eql_TimeV w1 _ _ x.guardTime y.guardTime) rfl rfl rfl (.inl rfl) (by decide) (by decide) fun a hI => ?_
  refine ch_link (isAnd := true) (p1 := .pointer (some ⟨g, 22, none⟩)) (p2 := .pointer (some ⟨(g + 1), 22, none⟩)) hI rfl (by go_simp) (load_u32 w1 g 22 _ (rangeAt_sub hA0 1 _ rfl)) (by go_simp) (load_u32 w1 (g + 1) 22 _ (rangeAt_sub hB0 1 _ rfl)) (eql_u32 w1 _ _ x.access y.access) rfl rfl rfl (.inl rfl) (by decide) (by decide) fun a hI => ?_
  refine ch_link (isAnd := true) (p1 := .pointer (some ⟨g, 23, none⟩)) (p2 := .pointer (some ⟨(g + 1), 23, none⟩)) hI rfl (by go_simp) (load_u64 w1 g 23 _ (rangeAt_sub hA0 1 _ rfl)) (by go_simp) (load_u64 w1 (g + 1) 23 _ (rangeAt_sub hB0 1 _ rfl)) (eql_u64 w1 _ _ x.offset y.offset) rfl rfl rfl (.inl rfl) (by decide) (by decide) fun a hI => ?_
  refine ch_link (isAnd := true) (p1 := .pointer (some ⟨g, 24, none⟩)) (p2 := .pointer (some ⟨(g + 1), 24, none⟩)) hI rfl (by go_simp) (load_u32 w1 g 24 _ (rangeAt_sub hA0 1 _ rfl)) (by go_simp) (load_u32 w1 (g + 1) 24 _ (rangeAt_sub hB0 1 _ rfl)) (eql_u32 w1 _ _ x.count y.count) rfl rfl rfl (.inl rfl) (by decide) (by decide) fun a hI => ?_
  refine ch_link (isAnd := true) (p1 := .pointer (some ⟨g, 25, none⟩)) (p2 := .pointer (some ⟨(g + 1), 25, none⟩)) hI rfl (by go_simp) (load_int w1 g 25 _ (rangeAt_sub hA0 1 _ rfl)) (by go_simp) (load_int w1 (g + 1) 25 _ (rangeAt_sub hB0 1 _ rfl)) (eql_int w1 _ _ x.stable y.stable) rfl rfl rfl (.inl rfl) (by decide) (by decide) fun a hI => ?_
  refine ch_link (isAnd := true) (p1 := .pointer (some ⟨g, 26, none⟩)) (p2 := .pointer (some ⟨(g + 1), 26, none⟩)) hI rfl (by go_simp) (load_int w1 g 26 _ (rangeAt_sub hA0 1 _ rfl)) (by go_simp) (load_int w1 (g + 1) 26 _ (rangeAt_sub hB0 1 _ rfl)) (eql_int w1 _ _ x.mode y.mode) rfl rfl rfl (.inl rfl) (by decide) (by decide) fun a hI => ?_
  refine ch_link (isAnd := true) (p1 := .pointer (some ⟨g, 27, none⟩)) (p2 := .pointer (some ⟨(g + 1), 27, none⟩)) hI rfl (by go_simp) (load_int w1 g 27 _ (rangeAt_sub hA0 1 _ rfl)) (by go_simp) (load_int w1 (g + 1) 27 _ (rangeAt_sub hB0 1 _ rfl)) (eql_int w1 _ _ x.type y.type) rfl rfl rfl (.inl rfl) (by decide) (by decide) fun a hI => ?_
  refine ch_linkG (isAnd := true) [_, _, _, _, _, _, _] (fun w' => w' = w1) (b := eqb x.data y.data) hI rfl rfl (by
    intro o ho
    simp only [List.mem_cons, List.not_mem_nil, or_false] at ho
    rcases ho with rfl | rfl | rfl | rfl | rfl | rfl | rfl <;> exact ⟨rfl, _, rfl, by decide⟩) rfl rfl rfl (.inl rfl) (by decide) (fun hg K hK hK2 => ?_) (fun a w' hw hI => ?_)
  · refine ch_load (p1 := .pointer (some ⟨g, 28, none⟩)) hI hI.hp hg (by go_simp) (load_bytes w1 g 28 _ (rangeAt_sub hA0 1 _ rfl)) (by decide) fun a1 hI1 hv1 _ => ?_
    refine ch_val hI1 hg rfl rfl (v := .string (str x.data)) (by simp only [execOp, eval_tmp hv1, Sem.run_bind, run_conv HX.out]; rfl) (by decide) fun a2 hI2 hv2 _ => ?_
    refine ch_load (p1 := .pointer (some ⟨(g + 1), 28, none⟩)) hI2 hI2.hq hg (by go_simp) (load_bytes w1 (g + 1) 28 _ (rangeAt_sub hB0 1 _ rfl)) (by decide) fun a3 hI3 hv3 hk3 => ?_
    have hv2' := hk3 _ _ (by decide) (by decide) hv2
    refine ch_val hI3 hg rfl rfl (v := .string (str y.data)) (by simp only [execOp, eval_tmp hv3, Sem.run_bind, run_conv HY.out]; rfl) (by decide) fun a4 hI4 hv4 hk4 => ?_
    have hv2'' := hk4 _ _ (by decide) hv2'
    refine ch_val hI4 hg rfl rfl (v := .bool (eqb x.data y.data)) ?_ (by decide) fun a5 hI5 hv5 _ => ?_
    · simp only [execOp, eval_tmp hv2'', eval_tmp hv4]
      rw [Sem.run_bind, eql_str w1 _ _ x.data y.data]
      rfl
    · exact hK2 _ _ (hK _ _ rfl hI5 hv5)
  · have hw := hw.symm
    subst hw
    refine ch_link (isAnd := true) (p1 := .pointer (some ⟨g, 29, none⟩)) (p2 := .pointer (some ⟨(g + 1), 29, none⟩)) hI rfl (by go_simp) (load_u64 w1 g 29 _ (rangeAt_sub hA0 1 _ rfl)) (by go_simp) (load_u64 w1 (g + 1) 29 _ (rangeAt_sub hB0 1 _ rfl)) (eql_u64 w1 _ _ x.verf y.verf) rfl rfl rfl (.inl rfl) (by decide) (by decide) fun a hI => ?_
    refine ch_link (isAnd := true) (p1 := .pointer (some ⟨g, 30, none⟩)) (p2 := .pointer (some ⟨(g + 1), 30, none⟩)) hI rfl (by go_simp) (load_u64 w1 g 30 _ (rangeAt_sub hA0 1 _ rfl)) (by go_simp) (load_u64 w1 (g + 1) 30 _ (rangeAt_sub hB0 1 _ rfl)) (eql_u64 w1 _ _ x.cookie y.cookie) rfl rfl rfl (.inl rfl) (by decide) (by decide) fun a hI => ?_
    refine ch_link (isAnd := true) (p1 := .pointer (some ⟨g, 31, none⟩)) (p2 := .pointer (some ⟨(g + 1), 31, none⟩)) hI rfl (by go_simp) (load_u64 w1 g 31 _ (rangeAt_sub hA0 1 _ rfl)) (by go_simp) (load_u64 w1 (g + 1) 31 _ (rangeAt_sub hB0 1 _ rfl)) (eql_u64 w1 _ _ x.cookieVerf y.cookieVerf) rfl rfl rfl (.inl rfl) (by decide) (by decide) fun a hI => ?_
    refine ch_link (isAnd := true) (p1 := .pointer (some ⟨g, 32, none⟩)) (p2 := .pointer (some ⟨(g + 1), 32, none⟩)) hI rfl (by go_simp) (load_u32 w1 g 32 _ (rangeAt_sub hA0 1 _ rfl)) (by go_simp) (load_u32 w1 (g + 1) 32 _ (rangeAt_sub hB0 1 _ rfl)) (eql_u32 w1 _ _ x.dirCount y.dirCount) rfl rfl rfl (.inl rfl) (by decide) (by decide) fun a hI => ?_
    refine ch_link (isAnd := true) (p1 := .pointer (some ⟨g, 33, none⟩)) (p2 := .pointer (some ⟨(g + 1), 33, none⟩)) hI rfl (by go_simp) (load_u32 w1 g 33 _ (rangeAt_sub hA0 1 _ rfl)) (by go_simp) (load_u32 w1 (g + 1) 33 _ (rangeAt_sub hB0 1 _ rfl)) (eql_u32 w1 _ _ x.maxCount y.maxCount) rfl rfl rfl (.inl rfl) (by decide) (by decide) fun a hI => ?_
    refine ch_link (isAnd := true) (p1 := .pointer (some ⟨g, 34, none⟩)) (p2 := .pointer (some ⟨(g + 1), 34, none⟩)) hI rfl (by go_simp) (load_u32 w1 g 34 _ (rangeAt_sub hA0 1 _ rfl)) (by go_simp) (load_u32 w1 (g + 1) 34 _ (rangeAt_sub hB0 1 _ rfl)) (eql_u32 w1 _ _ x.spec1 y.spec1) rfl rfl rfl (.inl rfl) (by decide) (by decide) fun a hI => ?_
    refine ch_link (isAnd := true) (p1 := .pointer (some ⟨g, 35, none⟩)) (p2 := .pointer (some ⟨(g + 1), 35, none⟩)) hI rfl (by go_simp) (load_u32 w1 g 35 _ (rangeAt_sub hA0 1 _ rfl)) (by go_simp) (load_u32 w1 (g + 1) 35 _ (rangeAt_sub hB0 1 _ rfl)) (eql_u32 w1 _ _ x.spec2 y.spec2) rfl rfl rfl (.inr rfl) (by decide) (by decide) fun a hI => ?_
    refine wpList_nil ?_
    have hres := hI.results
    have HI := hid hI
    clear hI
    go_wp2_with fail
    refine bodyPost_ret (results_tmp rfl _ _ _) HI.out.defers ?_
    refine ⟨?_, hm⟩
    rw [hres]
    refine congrArg (fun b => Ending.returned (.bool b)) (Bool.eq_iff_iff.2 ?_)
    rw [ArgsV.eqb_all]
    simp only [cond_true, Bool.and_eq_true, eqb_iff, and_assoc]

end Go.Proofs.Ytanknjpcgceccaa
