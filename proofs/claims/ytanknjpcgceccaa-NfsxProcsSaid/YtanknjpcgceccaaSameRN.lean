/- nfsx.SameRes: it tells whether two results are the same. (Printed by wip/tools/gen_same4.py.) -/
import Derived.Test.YtanknjpcgceccaaSameE
namespace Go.Proofs.Ytanknjpcgceccaa
open Go.RowKit

theorem ResV.eqb_all (x y : ResV) : eqb x y = true ↔ (x.status = y.status ∧ x.obj = y.obj ∧ x.dir = y.dir ∧ x.before = y.before ∧ x.toBefore = y.toBefore ∧ x.after = y.after ∧ x.toAfter = y.toAfter ∧ x.hasHandle = y.hasHandle ∧ x.handle = y.handle ∧ x.access = y.access ∧ x.path = y.path ∧ x.count = y.count ∧ x.eof = y.eof ∧ x.data = y.data ∧ x.committed = y.committed ∧ x.verf = y.verf ∧ x.cookieVerf = y.cookieVerf ∧ x.entries = y.entries ∧ x.bytes = y.bytes ∧ x.freeBytes = y.freeBytes ∧ x.files = y.files ∧ x.freeFiles = y.freeFiles) := by
  rw [eqb_iff]; cases x; cases y; simp

section
variable {a : Act} {w : World} {d : Nat} {x1 x2 : Nat} {v1 v2 : Value} {ts : Array TypeId} {y : TypeId} {s : String} {e : Array Edge} {g : Option (Nat × Bool)}
theorem run_callB (h1 : a.tmps[x1]? = some v1) (h2 : a.tmps[x2]? = some v2) :
    (execOp a.eval ⟨some d, .call { callee := .value (.func 46), args := #[.tmp x1, .tmp x2], argTypes := ts }, y, s, e, g⟩).run Try.prog w = .ok (.enter 46 #[v1, v2]) w := by
  have h0 : a.eval (.func 46) = .func (.func 46) #[] #[] := rfl
  go_simp
theorem run_callE (h1 : a.tmps[x1]? = some v1) (h2 : a.tmps[x2]? = some v2) :
    (execOp a.eval ⟨some d, .call { callee := .value (.func 47), args := #[.tmp x1, .tmp x2], argTypes := ts }, y, s, e, g⟩).run Try.prog w = .ok (.enter 47 #[v1, v2]) w := by
  have h0 : a.eval (.func 47) = .func (.func 47) #[] #[] := rfl
  go_simp
end

set_option maxRecDepth 100000 in
set_option maxHeartbeats 4000000 in
theorem nfsxSameRes_any (x y : ResV) (xo yo : Option Addr) (xc yc : Nat) (w : World) (hx : SlB w xo xc x.data) (hy : SlB w yo yc y.data)
    (xe ye : Option Addr) (xec yec : Nat) (hex : SlE w xe xec x.entries) (hey : SlE w ye yec y.entries)
    (hlx : x.data.length ≤ 9223372036854775807) (hly : y.data.length ≤ 9223372036854775807) (hlex : x.entries.length ≤ 9223372036854775807) (hley : y.entries.length ≤ 9223372036854775807) :
    Calls Try.prog 16 #[.agg (x.cells (.slice xo x.data.length xc) (.slice xe x.entries.length xec)).toArray, .agg (y.cells (.slice yo y.data.length yc) (.slice ye y.entries.length yec)).toArray] w fun e w' => e = .returned (.bool (eqb x y)) ∧ Mods (fun _ => False) w w' := by
  have HX0 := hid hx; have HY0 := hid hy; have HEX0 := hid hex; have HEY0 := hid hey; clear hx hy hex hey
  have HL := hid (And.intro hlx (And.intro hly (And.intro hlex hley))); clear hlx hly hlex hley
  obtain ⟨A, hAe⟩ : ∃ A, A = (x.cells (.slice xo x.data.length xc) (.slice xe x.entries.length xec)).toArray := ⟨_, rfl⟩
  obtain ⟨B, hBe⟩ : ∃ B, B = (y.cells (.slice yo y.data.length yc) (.slice ye y.entries.length yec)).toArray := ⟨_, rfl⟩
  rw [← hAe, ← hBe]
  have HA := hid hAe; have HB := hid hBe
  clear hAe hBe
  go_enter Try.func16, Try.ntmps16
  go_upto_region 1 with fail
  refine wp_region_list ?_
  have hA0 : ((w.alloc (.cells A 42)).alloc (.cells B 42)).rangeAt w.heap.size 0 A.toList := rangeAt_keep (by have h := rangeAt_new w A.toList 42; simpa using h) (Mods.alloc (fun _ => False) _ _) (fun h => h)
  have hB0 : ((w.alloc (.cells A 42)).alloc (.cells B 42)).rangeAt (w.heap.size + 1) 0 B.toList := by
    have h := rangeAt_new (w.alloc (.cells A 42)) B.toList 42
    simpa using h
  have hm : Mods (fun _ => False) w ((w.alloc (.cells A 42)).alloc (.cells B 42)) := (Mods.alloc _ _ _).trans (Mods.alloc _ _ _)
  generalize (w.alloc (.cells A 42)).alloc (.cells B 42) = w1 at hA0 hB0 hm ⊢
  have HX := hid (HX0.out.keep hm fun _ _ h => h)
  have HY := hid (HY0.out.keep hm fun _ _ h => h)
  have HEX := hid (HEX0.out.keep hm fun _ _ h => h)
  have HEY := hid (HEY0.out.keep hm fun _ _ h => h)
  rw [HA.out, List.toList_toArray] at hA0
  rw [HB.out, List.toList_toArray] at hB0
  clear HX0 HY0 HEX0 HEY0
  have hI : ∀ a : Act, a.tmps.size = 157 ∧ a.defers = [] ∧ a.tmps[2]? = some (.pointer (some ⟨w.heap.size, 0, none⟩)) ∧ a.tmps[3]? = some (.pointer (some ⟨w.heap.size + 1, 0, none⟩)) ∧ a.tmps[4]? = some (.bool false) →
      Inv a 157 2 3 (.pointer (some ⟨w.heap.size, 0, none⟩)) (.pointer (some ⟨w.heap.size + 1, 0, none⟩)) 4 false := fun a ⟨h1, h2, h3, h4, h5⟩ => ⟨h1, h2, h3, h4, h5⟩
  generalize ga : (Act.mk _ _) = a0
  have hI := hI a0 (by rw [← ga]; exact ⟨rfl, rfl, rfl, rfl, rfl⟩)
  clear ga
  generalize w.heap.size = g at hI hA0 hB0
  refine ch_first (p1 := .pointer (some ⟨g, 0, none⟩)) (p2 := .pointer (some ⟨(g + 1), 0, none⟩)) hI (by go_simp) (load_stat w1 g 0 _ (rangeAt_sub hA0 1 _ rfl)) (by go_simp) (load_stat w1 (g + 1) 0 _ (rangeAt_sub hB0 1 _ rfl)) (eql_stat w1 _ _ x.status y.status) (by decide) (by decide) fun a hI => ?_
  refine ch_link (isAnd := true) (p1 := .pointer (some ⟨g, 1, none⟩)) (p2 := .pointer (some ⟨(g + 1), 1, none⟩)) hI rfl (by go_simp) (load_PostV w1 g 1 x.obj (rangeAt_sub hA0 15 _ rfl)) (by go_simp) (load_PostV w1 (g + 1) 1 y.obj (rangeAt_sub hB0 15 _ rfl)) (eql_PostV w1 _ _ x.obj y.obj) rfl rfl rfl (.inl rfl) (by decide) (by decide) fun a hI => ?_
  refine ch_link (isAnd := true) (p1 := .pointer (some ⟨g, 16, none⟩)) (p2 := .pointer (some ⟨(g + 1), 16, none⟩)) hI rfl (by go_simp) (load_PostV w1 g 16 x.dir (rangeAt_sub hA0 15 _ rfl)) (by go_simp) (load_PostV w1 (g + 1) 16 y.dir (rangeAt_sub hB0 15 _ rfl)) (eql_PostV w1 _ _ x.dir y.dir) rfl rfl rfl (.inl rfl) (by decide) (by decide) fun a hI => ?_
  refine ch_link (isAnd := true) (p1 := .pointer (some ⟨g, 31, none⟩)) (p2 := .pointer (some ⟨(g + 1), 31, none⟩)) hI rfl (by go_simp) (load_WccV w1 g 31 x.before (rangeAt_sub hA0 6 _ rfl)) (by go_simp) (load_WccV w1 (g + 1) 31 y.before (rangeAt_sub hB0 6 _ rfl)) (eql_WccV w1 _ _ x.before y.before) rfl rfl rfl (.inl rfl) (by decide) (by decide) fun a hI => ?_
  refine ch_link (isAnd := true) (p1 := .pointer (some ⟨g, 37, none⟩)) (p2 := .pointer (some ⟨(g + 1), 37, none⟩)) hI rfl (by go_simp) (load_WccV w1 g 37 x.toBefore (rangeAt_sub hA0 6 _ rfl)) (by go_simp) (load_WccV w1 (g + 1) 37 y.toBefore (rangeAt_sub hB0 6 _ rfl)) (eql_WccV w1 _ _ x.toBefore y.toBefore) rfl rfl rfl (.inl rfl) (by decide) (by decide) fun a hI => ?_
  refine ch_link (isAnd := true) (p1 := .pointer (some ⟨g, 43, none⟩)) (p2 := .pointer (some ⟨(g + 1), 43, none⟩)) hI rfl (by go_simp) (load_PostV w1 g 43 x.after (rangeAt_sub hA0 15 _ rfl)) (by go_simp) (load_PostV w1 (g + 1) 43 y.after (rangeAt_sub hB0 15 _ rfl)) (eql_PostV w1 _ _ x.after y.after) rfl rfl rfl (.inl rfl) (by decide) (by decide) fun a hI => ?_
  refine ch_link (isAnd := true) (p1 := .pointer (some ⟨g, 58, none⟩)) (p2 := .pointer (some ⟨(g + 1), 58, none⟩)) hI rfl (by go_simp) (load_PostV w1 g 58 x.toAfter (rangeAt_sub hA0 15 _ rfl)) (by go_simp) (load_PostV w1 (g + 1) 58 y.toAfter (rangeAt_sub hB0 15 _ rfl)) (eql_PostV w1 _ _ x.toAfter y.toAfter) rfl rfl rfl (.inl rfl) (by decide) (by decide) fun a hI => ?_
  refine ch_link (isAnd := true) (p1 := .pointer (some ⟨g, 73, none⟩)) (p2 := .pointer (some ⟨(g + 1), 73, none⟩)) hI rfl (by go_simp) (load_bool w1 g 73 _ (rangeAt_sub hA0 1 _ rfl)) (by go_simp) (load_bool w1 (g + 1) 73 _ (rangeAt_sub hB0 1 _ rfl)) (eql_bool w1 _ _ x.hasHandle y.hasHandle) rfl rfl rfl (.inl rfl) (by decide) (by decide) fun a hI => ?_
  refine ch_link (isAnd := true) (p1 := .pointer (some ⟨g, 74, none⟩)) (p2 := .pointer (some ⟨(g + 1), 74, none⟩)) hI rfl (by go_simp) (load_str w1 g 74 _ (rangeAt_sub hA0 1 _ rfl)) (by go_simp) (load_str w1 (g + 1) 74 _ (rangeAt_sub hB0 1 _ rfl)) (eql_str w1 _ _ x.handle y.handle) rfl rfl rfl (.inl rfl) (by decide) (by decide) fun a hI => ?_
  refine ch_link (isAnd := true) (p1 := .pointer (some ⟨g, 75, none⟩)) (p2 := .pointer (some ⟨(g + 1), 75, none⟩)) hI rfl (by go_simp) (load_u32 w1 g 75 _ (rangeAt_sub hA0 1 _ rfl)) (by go_simp) (load_u32 w1 (g + 1) 75 _ (rangeAt_sub hB0 1 _ rfl)) (eql_u32 w1 _ _ x.access y.access) rfl rfl rfl (.inl rfl) (by decide) (by decide) fun a hI => ?_
  refine ch_link (isAnd := true) (p1 := .pointer (some ⟨g, 76, none⟩)) (p2 := .pointer (some ⟨(g + 1), 76, none⟩)) hI rfl (by go_simp) (load_str w1 g 76 _ (rangeAt_sub hA0 1 _ rfl)) (by go_simp) (load_str w1 (g + 1) 76 _ (rangeAt_sub hB0 1 _ rfl)) (eql_str w1 _ _ x.path y.path) rfl rfl rfl (.inl rfl) (by decide) (by decide) fun a hI => ?_
  refine ch_link (isAnd := true) (p1 := .pointer (some ⟨g, 77, none⟩)) (p2 := .pointer (some ⟨(g + 1), 77, none⟩)) hI rfl (by go_simp) (load_u32 w1 g 77 _ (rangeAt_sub hA0 1 _ rfl)) (by go_simp) (load_u32 w1 (g + 1) 77 _ (rangeAt_sub hB0 1 _ rfl)) (eql_u32 w1 _ _ x.count y.count) rfl rfl rfl (.inl rfl) (by decide) (by decide) fun a hI => ?_
  refine ch_link (isAnd := true) (p1 := .pointer (some ⟨g, 78, none⟩)) (p2 := .pointer (some ⟨(g + 1), 78, none⟩)) hI rfl (by go_simp) (load_bool w1 g 78 _ (rangeAt_sub hA0 1 _ rfl)) (by go_simp) (load_bool w1 (g + 1) 78 _ (rangeAt_sub hB0 1 _ rfl)) (eql_bool w1 _ _ x.eof y.eof) rfl rfl rfl (.inl rfl) (by decide) (by decide) fun a hI => ?_
  refine ch_linkG (isAnd := true) [_, _, _, _, _] (fun w' => Quiet w1 w') (b := eqb x.data y.data) hI rfl (Quiet.refl _) (by
    intro o ho
    simp only [List.mem_cons, List.not_mem_nil, or_false] at ho
    rcases ho with rfl | rfl | rfl | rfl | rfl <;> exact ⟨rfl, _, rfl, by decide⟩) rfl rfl rfl (.inl rfl) (by decide) (fun hg K hK hK2 => ?_) (fun a w2 hq hI => ?_)
  · refine ch_load (p1 := .pointer (some ⟨g, 79, none⟩)) hI hI.hp hg (by go_simp) (load_bytes w1 g 79 _ (rangeAt_sub hA0 1 _ rfl)) (by decide) fun a1 hI1 hv1 _ => ?_
    refine ch_load (p1 := .pointer (some ⟨(g + 1), 79, none⟩)) hI1 hI1.hq hg (by go_simp) (load_bytes w1 (g + 1) 79 _ (rangeAt_sub hB0 1 _ rfl)) (by decide) fun a2 hI2 hv2 hk2 => ?_
    have hv1' := hk2 _ _ (by decide) (by decide) hv1
    refine ch_call (v := .bool (eqb x.data y.data)) (R := fun w' => Quiet w1 w') hI2 hg rfl rfl (run_callB hv1' hv2) ((EqualB_any _ _ _ _ _ _ w1 HX.out HY.out HL.out.1 HL.out.2.1).mono fun e w' ⟨he, hq⟩ => ⟨by rw [he, eqb_of (a := x.data) (b := y.data) (c := decide (x.data = y.data)) (by simp)], hq⟩) (by decide) fun a3 w3 hq3 hI3 hv3 => ?_
    exact hK2 _ _ (hK _ _ hq3 hI3 hv3)
  have hqm : Mods (fun _ => False) w1 w2 := Quiet.mods hq _
  replace hA0 := rangeAt_keep hA0 hqm (fun h => h)
  replace hB0 := rangeAt_keep hB0 hqm (fun h => h)
  replace HX := hid (HX.out.keep hqm fun _ _ h => h)
  replace HY := hid (HY.out.keep hqm fun _ _ h => h)
  replace HEX := hid (HEX.out.keep hqm fun _ _ h => h)
  replace HEY := hid (HEY.out.keep hqm fun _ _ h => h)
  replace hm := hm.trans hqm
  clear hqm hq
  refine ch_link (isAnd := true) (p1 := .pointer (some ⟨g, 80, none⟩)) (p2 := .pointer (some ⟨(g + 1), 80, none⟩)) hI rfl (by go_simp) (load_int w2 g 80 _ (rangeAt_sub hA0 1 _ rfl)) (by go_simp) (load_int w2 (g + 1) 80 _ (rangeAt_sub hB0 1 _ rfl)) (eql_int w2 _ _ x.committed y.committed) rfl rfl rfl (.inl rfl) (by decide) (by decide) fun a hI => ?_
  refine ch_link (isAnd := true) (p1 := .pointer (some ⟨g, 81, none⟩)) (p2 := .pointer (some ⟨(g + 1), 81, none⟩)) hI rfl (by go_simp) (load_u64 w2 g 81 _ (rangeAt_sub hA0 1 _ rfl)) (by go_simp) (load_u64 w2 (g + 1) 81 _ (rangeAt_sub hB0 1 _ rfl)) (eql_u64 w2 _ _ x.verf y.verf) rfl rfl rfl (.inl rfl) (by decide) (by decide) fun a hI => ?_
  refine ch_link (isAnd := true) (p1 := .pointer (some ⟨g, 82, none⟩)) (p2 := .pointer (some ⟨(g + 1), 82, none⟩)) hI rfl (by go_simp) (load_u64 w2 g 82 _ (rangeAt_sub hA0 1 _ rfl)) (by go_simp) (load_u64 w2 (g + 1) 82 _ (rangeAt_sub hB0 1 _ rfl)) (eql_u64 w2 _ _ x.cookieVerf y.cookieVerf) rfl rfl rfl (.inl rfl) (by decide) (by decide) fun a hI => ?_
  refine ch_linkG (isAnd := true) [_, _, _, _, _] (fun w' => Quiet w2 w') (b := eqb x.entries y.entries) hI rfl (Quiet.refl _) (by
    intro o ho
    simp only [List.mem_cons, List.not_mem_nil, or_false] at ho
    rcases ho with rfl | rfl | rfl | rfl | rfl <;> exact ⟨rfl, _, rfl, by decide⟩) rfl rfl rfl (.inl rfl) (by decide) (fun hg K hK hK2 => ?_) (fun a w3 hq hI => ?_)
  · refine ch_load (p1 := .pointer (some ⟨g, 83, none⟩)) hI hI.hp hg (by go_simp) (load_entries w2 g 83 _ (rangeAt_sub hA0 1 _ rfl)) (by decide) fun a1 hI1 hv1 _ => ?_
    refine ch_load (p1 := .pointer (some ⟨(g + 1), 83, none⟩)) hI1 hI1.hq hg (by go_simp) (load_entries w2 (g + 1) 83 _ (rangeAt_sub hB0 1 _ rfl)) (by decide) fun a2 hI2 hv2 hk2 => ?_
    have hv1' := hk2 _ _ (by decide) (by decide) hv1
    refine ch_call (v := .bool (eqb x.entries y.entries)) (R := fun w' => Quiet w2 w') hI2 hg rfl rfl (run_callE hv1' hv2) (EqualE_any _ _ _ _ _ _ w2 HEX.out HEY.out HL.out.2.2.1 HL.out.2.2.2) (by decide) fun a3 w3 hq3 hI3 hv3 => ?_
    exact hK2 _ _ (hK _ _ hq3 hI3 hv3)
  have hqm : Mods (fun _ => False) w2 w3 := Quiet.mods hq _
  replace hA0 := rangeAt_keep hA0 hqm (fun h => h)
  replace hB0 := rangeAt_keep hB0 hqm (fun h => h)
  replace HX := hid (HX.out.keep hqm fun _ _ h => h)
  replace HY := hid (HY.out.keep hqm fun _ _ h => h)
  replace HEX := hid (HEX.out.keep hqm fun _ _ h => h)
  replace HEY := hid (HEY.out.keep hqm fun _ _ h => h)
  replace hm := hm.trans hqm
  clear hqm hq
  refine ch_link (isAnd := true) (p1 := .pointer (some ⟨g, 84, none⟩)) (p2 := .pointer (some ⟨(g + 1), 84, none⟩)) hI rfl (by go_simp) (load_u64 w3 g 84 _ (rangeAt_sub hA0 1 _ rfl)) (by go_simp) (load_u64 w3 (g + 1) 84 _ (rangeAt_sub hB0 1 _ rfl)) (eql_u64 w3 _ _ x.bytes y.bytes) rfl rfl rfl (.inl rfl) (by decide) (by decide) fun a hI => ?_
  refine ch_link (isAnd := true) (p1 := .pointer (some ⟨g, 85, none⟩)) (p2 := .pointer (some ⟨(g + 1), 85, none⟩)) hI rfl (by go_simp) (load_u64 w3 g 85 _ (rangeAt_sub hA0 1 _ rfl)) (by go_simp) (load_u64 w3 (g + 1) 85 _ (rangeAt_sub hB0 1 _ rfl)) (eql_u64 w3 _ _ x.freeBytes y.freeBytes) rfl rfl rfl (.inl rfl) (by decide) (by decide) fun a hI => ?_
  refine ch_link (isAnd := true) (p1 := .pointer (some ⟨g, 86, none⟩)) (p2 := .pointer (some ⟨(g + 1), 86, none⟩)) hI rfl (by go_simp) (load_u64 w3 g 86 _ (rangeAt_sub hA0 1 _ rfl)) (by go_simp) (load_u64 w3 (g + 1) 86 _ (rangeAt_sub hB0 1 _ rfl)) (eql_u64 w3 _ _ x.files y.files) rfl rfl rfl (.inl rfl) (by decide) (by decide) fun a hI => ?_
  refine ch_link (isAnd := true) (p1 := .pointer (some ⟨g, 87, none⟩)) (p2 := .pointer (some ⟨(g + 1), 87, none⟩)) hI rfl (by go_simp) (load_u64 w3 g 87 _ (rangeAt_sub hA0 1 _ rfl)) (by go_simp) (load_u64 w3 (g + 1) 87 _ (rangeAt_sub hB0 1 _ rfl)) (eql_u64 w3 _ _ x.freeFiles y.freeFiles) rfl rfl rfl (.inr rfl) (by decide) (by decide) fun a hI => ?_
  refine wpList_nil ?_
  have hres := hI.results
  have HI := hid hI
  clear hI
  go_wp2_with fail
  refine bodyPost_ret (results_tmp rfl _ _ _) HI.out.defers ?_
  refine ⟨?_, hm⟩
  rw [hres]
  refine congrArg (fun b => Ending.returned (.bool b)) (Bool.eq_iff_iff.2 ?_)
  rw [ResV.eqb_all]
  simp only [cond_true, Bool.and_eq_true, eqb_iff, and_assoc]

end Go.Proofs.Ytanknjpcgceccaa
