/- The reference's WriteArgs writes what nfsx's does. (Printed by wip/tools/gen_ro7.py.) -/
import Derived.Test.YtanknjpcgceccaaRo6
namespace Go.Proofs.Ytanknjpcgceccaa
open Go.RowKit

/-! ### What a step writes, where the cells are known -/
theorem isWr_oU32 (v : Int) (s : St) : (oU32 v s).isWr = s.isWr := by cases s <;> rfl
theorem isWr_oU64 (v : Int) (s : St) : (oU64 v s).isWr = s.isWr := by cases s <;> rfl
theorem isWr_oBool (v : Bool) (s : St) : (oBool v s).isWr = s.isWr := by cases s <;> rfl
theorem isWr_oNumber (lo hi v : Int) (s : St) : (oNumber lo hi v s).isWr = s.isWr := by cases s <;> rfl
theorem isWr_oText (m : Int) (bs : List UInt8) (s : St) : (oText m bs s).isWr = s.isWr := by cases s <;> rfl
theorem isWr_oTime (t : TimeV) (s : St) : (oTime t s).isWr = s.isWr := by simp only [oTime, isWr_oU32]
theorem isWr_oIf {b : Bool} {f : St → St} {s : St} (h : (f s).isWr = s.isWr) : (oIf b f s).isWr = s.isWr := by
  unfold oIf; split
  · exact h
  · rfl
theorem isWr_oHow (v : Int) (t : TimeV) (s : St) : (oHow v t s).isWr = s.isWr := by
  unfold oHow; split <;> simp only [isWr_oTime, isWr_oNumber]
theorem isWr_oSet (v : SattrV) (s : St) : (oSet v s).isWr = s.isWr := by
  simp only [oSet, isWr_oHow]
  rw [isWr_oIf (isWr_oU64 _ _), isWr_oBool, isWr_oIf (isWr_oU32 _ _), isWr_oBool, isWr_oIf (isWr_oU32 _ _), isWr_oBool, isWr_oIf (isWr_oNumber _ _ _ _), isWr_oBool]

section
variable {s : St} {A : Cells}
theorem w_truth {o : Nat} {b : Bool} (hs : s.isWr = true) (h : A o = some (.bool b)) : pTruth o (s, A) = (oBool b s, A) := by
  cases s with
  | rd => simp [St.isWr] at hs
  | wr bad out => simp only [pTruth, h, bv, St.truth, oBool]; rw [upd_self h]
theorem w_u32 {o : Nat} {v : Int} (hs : s.isWr = true) (h : A o = some (.int .u32 v)) : num1 4 .u32 o (s, A) = (oU32 v s, A) := by
  cases s with
  | rd => simp [St.isWr] at hs
  | wr bad out => simp only [num1, h, iv, St.num, oU32]; rw [upd_self h]
theorem w_u64 {o : Nat} {v : Int} (hs : s.isWr = true) (h : A o = some (.int .u64 v)) : num1 8 .u64 o (s, A) = (oU64 v s, A) := by
  cases s with
  | rd => simp [St.isWr] at hs
  | wr bad out => simp only [num1, h, iv, St.num, oU64]; rw [upd_self h]
theorem w_number {o : Nat} {v lo hi : Int} (hs : s.isWr = true) (h : A o = some (.int .i64 v)) : pNumber lo hi o (s, A) = (oNumber lo hi v s, A) := by
  cases s with
  | rd => simp [St.isWr] at hs
  | wr bad out => simp only [pNumber, h, iv, St.number, oNumber]; rw [upd_self h]
theorem w_text {o : Nat} {m : Int} {xs : List UInt8} (hs : s.isWr = true) (h : A o = some (.string (str xs))) : pText m o (s, A) = (oText m xs s, A) := by
  cases s with
  | rd => simp [St.isWr] at hs
  | wr bad out => simp only [pText, h, sv_str, St.row, oText]; rw [upd_self h]
theorem w_u32s {o o2 : Nat} {v v2 : Int} (hs : s.isWr = true) (h : A o = some (.int .u32 v)) (h2 : A o2 = some (.int .u32 v2)) : nums 4 .u32 [o, o2] (s, A) = (oU32 v2 (oU32 v s), A) := by
  show num1 4 .u32 o2 (num1 4 .u32 o (s, A)) = _
  rw [w_u32 hs h, w_u32 (by rw [isWr_oU32]; exact hs) h2]
theorem w_u64s {o o2 : Nat} {v v2 : Int} (hs : s.isWr = true) (h : A o = some (.int .u64 v)) (h2 : A o2 = some (.int .u64 v2)) : nums 8 .u64 [o, o2] (s, A) = (oU64 v2 (oU64 v s), A) := by
  show num1 8 .u64 o2 (num1 8 .u64 o (s, A)) = _
  rw [w_u64 hs h, w_u64 (by rw [isWr_oU64]; exact hs) h2]
theorem w_time {o : Nat} {t : TimeV} (hs : s.isWr = true) (h : A o = some (.int .u32 t.sec)) (h2 : A (o + 1) = some (.int .u32 t.nsec)) : pTime o (s, A) = (oTime t s, A) := w_u32s hs h h2
theorem w_if {o : Nat} {b : Bool} {f : X → X} {g : St → St} (h : A o = some (.bool b)) (hf : f (s, A) = (g s, A)) : pIf o f (s, A) = (oIf b g s, A) := by
  simp only [pIf, h, bv, oIf]
  cases b
  · rfl
  · exact hf
theorem w_how {v t : Nat} {i : Int} {tv : TimeV} (hs : s.isWr = true) (h : A v = some (.int .i64 i)) (h0 : A t = some (.int .u32 tv.sec)) (h1 : A (t + 1) = some (.int .u32 tv.nsec)) :
    ∃ A', pHow v t (s, A) = (oHow i tv s, A') ∧ ∀ j, j ≠ t → j ≠ t + 1 → A' j = A j := by
  unfold pHow oHow
  rw [w_number hs h]
  simp only [h, iv]
  split
  · exact ⟨A, w_time (by rw [isWr_oNumber]; exact hs) h0 h1, fun _ _ _ => rfl⟩
  · exact ⟨_, rfl, fun j h1 h2 => by rw [upd_ne _ _ h2, upd_ne _ _ h1]⟩
/-- All of a Sattr: the cells of the times may be others then. -/
theorem w_set {v : SattrV} (hs : s.isWr = true) (h : ∀ j u, v.cells[j]? = some u → A (5 + j) = some u) : ∃ A', pSet 5 (s, A) = (oSet v s, A') ∧ ∀ j, j < 15 ∨ 18 < j → A' j = A j := by
  have c0 := h 0 _ rfl; have c1 := h 1 _ rfl; have c2 := h 2 _ rfl; have c3 := h 3 _ rfl; have c4 := h 4 _ rfl; have c5 := h 5 _ rfl; have c6 := h 6 _ rfl; have c7 := h 7 _ rfl
  have c8 := h 8 _ rfl; have c9 := h 9 _ rfl; have c10 := h 10 _ rfl; have c11 := h 11 _ rfl; have c12 := h 12 _ rfl; have c13 := h 13 _ rfl
  unfold pSet oSet
  obtain ⟨s1, e1⟩ : ∃ z, z = oBool v.hasMode s := ⟨_, rfl⟩
  have w1 : s1.isWr = true := by rw [e1, isWr_oBool]; exact hs
  rw [w_truth hs c0, ← e1]
  obtain ⟨s2, e2⟩ : ∃ z, z = oIf v.hasMode (oNumber 0 4294967295 v.mode) s1 := ⟨_, rfl⟩
  have w2 : s2.isWr = true := by rw [e2, isWr_oIf (isWr_oNumber _ _ _ _)]; exact w1
  rw [w_if (g := oNumber 0 4294967295 v.mode) c0 (w_number w1 c4), ← e2]
  obtain ⟨s3, e3⟩ : ∃ z, z = oBool v.hasUid s2 := ⟨_, rfl⟩
  have w3 : s3.isWr = true := by rw [e3, isWr_oBool]; exact w2
  rw [w_truth w2 c1, ← e3]
  obtain ⟨s4, e4⟩ : ∃ z, z = oIf v.hasUid (oU32 v.uid) s3 := ⟨_, rfl⟩
  have w4 : s4.isWr = true := by rw [e4, isWr_oIf (isWr_oU32 _ _)]; exact w3
  rw [w_if (g := oU32 v.uid) c1 (w_u32 w3 c5), ← e4]
  obtain ⟨s5, e5⟩ : ∃ z, z = oBool v.hasGid s4 := ⟨_, rfl⟩
  have w5 : s5.isWr = true := by rw [e5, isWr_oBool]; exact w4
  rw [w_truth w4 c2, ← e5]
  obtain ⟨s6, e6⟩ : ∃ z, z = oIf v.hasGid (oU32 v.gid) s5 := ⟨_, rfl⟩
  have w6 : s6.isWr = true := by rw [e6, isWr_oIf (isWr_oU32 _ _)]; exact w5
  rw [w_if (g := oU32 v.gid) c2 (w_u32 w5 c6), ← e6]
  obtain ⟨s7, e7⟩ : ∃ z, z = oBool v.hasSize s6 := ⟨_, rfl⟩
  have w7 : s7.isWr = true := by rw [e7, isWr_oBool]; exact w6
  rw [w_truth w6 c3, ← e7]
  obtain ⟨s8, e8⟩ : ∃ z, z = oIf v.hasSize (oU64 v.size) s7 := ⟨_, rfl⟩
  have w8 : s8.isWr = true := by rw [e8, isWr_oIf (isWr_oU64 _ _)]; exact w7
  rw [w_if (g := oU64 v.size) c3 (w_u64 w7 c7), ← e8]
  obtain ⟨A1, h1, k1⟩ := w_how (tv := v.atime) w8 c8 c10 c11
  rw [h1]
  obtain ⟨A2, h2, k2⟩ := w_how (s := oHow v.atimeHow v.atime s8) (A := A1) (v := 5 + 9) (t := 5 + 12) (tv := v.mtime) (by rw [isWr_oHow]; exact w8) ((k1 _ (by decide) (by decide)).trans c9) ((k1 _ (by decide) (by decide)).trans c12) ((k1 _ (by decide) (by decide)).trans c13)
  refine ⟨A2, h2, fun j hj => ?_⟩
  rw [k2 j (by omega) (by omega), k1 j (by omega) (by omega)]
end

/-- The state behind all of a procedure's arguments. -/
theorem w_all (k : Nat) (hk : thereN k) (a : ArgsV) (dv : Value) (s : St) (hs : s.isWr = true) : (pAll k (s, cellsOf a dv) a.data).1.1 = oBody (k : Int) a (oFront (k : Int) a s) := by
  have hf : ∀ s : St, s.isWr = true → pText 64 0 (s, cellsOf a dv) = (oText 64 a.file s, cellsOf a dv) := fun s hs => w_text hs rfl
  have hn : ∀ s : St, s.isWr = true → pText 255 2 (s, cellsOf a dv) = (oText 255 a.name s, cellsOf a dv) := fun s hs => w_text hs rfl
  have hset : ∀ s : St, s.isWr = true → ∃ A', pSet 5 (s, cellsOf a dv) = (oSet a.set s, A') ∧ ∀ j, j < 15 ∨ 18 < j → A' j = cellsOf a dv j := fun s hs => w_set hs fun j u hj => by
    have hlt : j < 14 := (List.getElem?_eq_some_iff.1 hj).1
    match j, hlt with
    | 0, _ => exact hj
    | 1, _ => exact hj
    | 2, _ => exact hj
    | 3, _ => exact hj
    | 4, _ => exact hj
    | 5, _ => exact hj
    | 6, _ => exact hj
    | 7, _ => exact hj
    | 8, _ => exact hj
    | 9, _ => exact hj
    | 10, _ => exact hj
    | 11, _ => exact hj
    | 12, _ => exact hj
    | 13, _ => exact hj
    | j + 14, h => exact absurd h (by omega)
  have hcases : k = 0 ∨ k = 1 ∨ k = 2 ∨ k = 3 ∨ k = 4 ∨ k = 5 ∨ k = 6 ∨ k = 7 ∨ k = 8 ∨ k = 9 ∨ k = 10 ∨ k = 11 ∨ k = 12 ∨ k = 13 ∨ k = 14 ∨ k = 15 ∨ k = 16 ∨ k = 17 ∨ k = 18 ∨ k = 19 ∨ k = 20 ∨ k = 21 ∨ k = 100 ∨ k = 101 ∨ k = 102 ∨ k = 103 ∨ k = 104 ∨ k = 105 := by unfold thereN at hk; omega
  have e1 : (oText 64 a.file s).isWr = true := by rw [isWr_oText]; exact hs
  have e2 : (oText 255 a.name (oText 64 a.file s)).isWr = true := by rw [isWr_oText]; exact e1
  rcases hcases with rfl | rfl | rfl | rfl | rfl | rfl | rfl | rfl | rfl | rfl | rfl | rfl | rfl | rfl | rfl | rfl | rfl | rfl | rfl | rfl | rfl | rfl | rfl | rfl | rfl | rfl | rfl | rfl
  · show (pArgs 0 (s, cellsOf a dv)).1 = _
    have hfr : oFront (0 : Int) a s = s := by simp [oFront, oIf, namedB, fileB]
    show _ = oBody (0 : Int) a (oFront (0 : Int) a s)
    rw [hfr]
    simp [pArgs, oBody, oMore]
  · show (pArgs 1 (s, cellsOf a dv)).1 = _
    have hfr : oFront (1 : Int) a s = (oText 64 a.file s) := by simp [oFront, oIf, namedB, fileB]
    show _ = oBody (1 : Int) a (oFront (1 : Int) a s)
    rw [hfr]
    simp only [pArgs, hf _ hs]
    simp [oBody, oMore, oIf]
  · show (pArgs 2 (s, cellsOf a dv)).1 = _
    have hfr : oFront (2 : Int) a s = (oText 64 a.file s) := by simp [oFront, oIf, namedB, fileB]
    show _ = oBody (2 : Int) a (oFront (2 : Int) a s)
    rw [hfr]
    obtain ⟨A', h1, h2⟩ := hset _ e1
    have c0 : A' 19 = some (.bool a.guard) := (h2 19 (by omega)).trans rfl
    have c1 : A' 20 = some (.int .u32 a.guardTime.sec) := (h2 20 (by omega)).trans rfl
    have c2 : A' 21 = some (.int .u32 a.guardTime.nsec) := (h2 21 (by omega)).trans rfl
    have e3 : (oSet a.set (oText 64 a.file s)).isWr = true := by rw [isWr_oSet]; exact e1
    simp only [pArgs]
    rw [hf _ hs, h1, w_truth e3 c0, w_if (g := oTime a.guardTime) c0 (w_time (by rw [isWr_oBool]; exact e3) c1 c2)]
    simp [oBody]
  · show (pArgs 3 (s, cellsOf a dv)).1 = _
    have hfr : oFront (3 : Int) a s = (oText 255 a.name (oText 64 a.file s)) := by simp [oFront, oIf, namedB, fileB]
    show _ = oBody (3 : Int) a (oFront (3 : Int) a s)
    rw [hfr]
    simp only [pArgs, pNamed, hf _ hs, hn _ e1]
    simp [oBody, oMore, oIf]
  · show (pArgs 4 (s, cellsOf a dv)).1 = _
    have hfr : oFront (4 : Int) a s = (oText 64 a.file s) := by simp [oFront, oIf, namedB, fileB]
    show _ = oBody (4 : Int) a (oFront (4 : Int) a s)
    rw [hfr]
    simp only [pArgs]
    rw [hf _ hs, w_u32 (v := a.access) e1 rfl]
    simp [oBody, oMore, oIf]
  · show (pArgs 5 (s, cellsOf a dv)).1 = _
    have hfr : oFront (5 : Int) a s = (oText 64 a.file s) := by simp [oFront, oIf, namedB, fileB]
    show _ = oBody (5 : Int) a (oFront (5 : Int) a s)
    rw [hfr]
    simp only [pArgs, hf _ hs]
    simp [oBody, oMore, oIf]
  · show (pArgs 6 (s, cellsOf a dv)).1 = _
    have hfr : oFront (6 : Int) a s = (oText 64 a.file s) := by simp [oFront, oIf, namedB, fileB]
    show _ = oBody (6 : Int) a (oFront (6 : Int) a s)
    rw [hfr]
    simp only [pArgs]
    rw [hf _ hs, w_u64 (v := a.offset) e1 rfl, w_u32 (v := a.count) (by rw [isWr_oU64]; exact e1) rfl]
    simp [oBody, oMore, oIf]
  · show (let y := pArgs 7 (s, cellsOf a dv); let r := y.1.row 8192 a.data; (r.2, y.2)).1 = _
    have hfr : oFront (7 : Int) a s = (oText 64 a.file s) := by simp [oFront, oIf, namedB, fileB]
    show _ = oBody (7 : Int) a (oFront (7 : Int) a s)
    rw [hfr]
    simp only [pArgs]
    rw [hf _ hs, w_u64 (v := a.offset) e1 rfl, w_u32 (v := a.count) (by rw [isWr_oU64]; exact e1) rfl, w_number (v := a.stable) (by rw [isWr_oU32, isWr_oU64]; exact e1) rfl]
    simp [oBody, oText]
  · show (pArgs 8 (s, cellsOf a dv)).1 = _
    have hfr : oFront (8 : Int) a s = (oText 255 a.name (oText 64 a.file s)) := by simp [oFront, oIf, namedB, fileB]
    show _ = oBody (8 : Int) a (oFront (8 : Int) a s)
    rw [hfr]
    have e3 : (oNumber 0 2 a.mode (oText 255 a.name (oText 64 a.file s))).isWr = true := by rw [isWr_oNumber]; exact e2
    obtain ⟨A', h1, h2⟩ := hset _ e3
    simp only [pArgs, pNamed]
    rw [hf _ hs, hn _ e1, w_number (v := a.mode) e2 rfl]
    have hc : iv (cellsOf a dv 26) = a.mode := rfl
    simp only [hc]
    by_cases hm : a.mode = 2
    · rw [if_pos hm, w_u64 (v := a.verf) e3 rfl]; simp [oBody, oMore, hm]
    · rw [if_neg hm, h1]; simp [oBody, oMore, hm]
  · show (pArgs 9 (s, cellsOf a dv)).1 = _
    have hfr : oFront (9 : Int) a s = (oText 255 a.name (oText 64 a.file s)) := by simp [oFront, oIf, namedB, fileB]
    show _ = oBody (9 : Int) a (oFront (9 : Int) a s)
    rw [hfr]
    obtain ⟨A', h1, h2⟩ := hset _ e2
    simp only [pArgs, pNamed]
    rw [hf _ hs, hn _ e1, h1]
    simp [oBody, oMore, oIf]
  · show (pArgs 10 (s, cellsOf a dv)).1 = _
    have hfr : oFront (10 : Int) a s = (oText 255 a.name (oText 64 a.file s)) := by simp [oFront, oIf, namedB, fileB]
    show _ = oBody (10 : Int) a (oFront (10 : Int) a s)
    rw [hfr]
    obtain ⟨A', h1, h2⟩ := hset _ e2
    simp only [pArgs, pNamed]
    rw [hf _ hs, hn _ e1, h1, w_text (xs := a.path) (by rw [isWr_oSet]; exact e2) ((h2 4 (by omega)).trans rfl)]
    simp [oBody, oMore, oIf]
  · show (pArgs 11 (s, cellsOf a dv)).1 = _
    have hfr : oFront (11 : Int) a s = (oText 255 a.name (oText 64 a.file s)) := by simp [oFront, oIf, namedB, fileB]
    show _ = oBody (11 : Int) a (oFront (11 : Int) a s)
    rw [hfr]
    have e3 : (oNumber 1 7 a.type (oText 255 a.name (oText 64 a.file s))).isWr = true := by rw [isWr_oNumber]; exact e2
    obtain ⟨A', h1, h2⟩ := hset _ e3
    have e4 : (oSet a.set (oNumber 1 7 a.type (oText 255 a.name (oText 64 a.file s)))).isWr = true := by rw [isWr_oSet]; exact e3
    have h3 := w_u32s (A := A') (o := 34) (o2 := 35) (v := a.spec1) (v2 := a.spec2) e4 ((h2 34 (by omega)).trans rfl) ((h2 35 (by omega)).trans rfl)
    simp only [pArgs, pNamed]
    rw [hf _ hs, hn _ e1, w_number (v := a.type) e2 rfl]
    have hc : iv (cellsOf a dv 27) = a.type := rfl
    simp only [hc]
    by_cases t3 : a.type = 3
    · rw [if_pos t3, h1, h3]; simp [oBody, oMore, t3]
    rw [if_neg t3]
    by_cases t4 : a.type = 4
    · rw [if_pos t4, h1, h3]; simp [oBody, oMore, t4]
    rw [if_neg t4]
    by_cases t6 : a.type = 6
    · rw [if_pos t6, h1]; simp [oBody, oMore, t6]
    rw [if_neg t6]
    by_cases t7 : a.type = 7
    · rw [if_pos t7, h1]; simp [oBody, oMore, t7]
    rw [if_neg t7]
    simp [oBody, oMore, t3, t4, t6, t7]
  · show (pArgs 12 (s, cellsOf a dv)).1 = _
    have hfr : oFront (12 : Int) a s = (oText 255 a.name (oText 64 a.file s)) := by simp [oFront, oIf, namedB, fileB]
    show _ = oBody (12 : Int) a (oFront (12 : Int) a s)
    rw [hfr]
    simp only [pArgs, pNamed, hf _ hs, hn _ e1]
    simp [oBody, oMore, oIf]
  · show (pArgs 13 (s, cellsOf a dv)).1 = _
    have hfr : oFront (13 : Int) a s = (oText 255 a.name (oText 64 a.file s)) := by simp [oFront, oIf, namedB, fileB]
    show _ = oBody (13 : Int) a (oFront (13 : Int) a s)
    rw [hfr]
    simp only [pArgs, pNamed, hf _ hs, hn _ e1]
    simp [oBody, oMore, oIf]
  · show (pArgs 14 (s, cellsOf a dv)).1 = _
    have hfr : oFront (14 : Int) a s = (oText 255 a.name (oText 64 a.file s)) := by simp [oFront, oIf, namedB, fileB]
    show _ = oBody (14 : Int) a (oFront (14 : Int) a s)
    rw [hfr]
    simp only [pArgs, pNamed]
    rw [hf _ hs, hn _ e1, w_text (xs := a.to) e2 rfl, w_text (xs := a.toName) (by rw [isWr_oText]; exact e2) rfl]
    simp [oBody, oMore, oIf]
  · show (pArgs 15 (s, cellsOf a dv)).1 = _
    have hfr : oFront (15 : Int) a s = (oText 64 a.file s) := by simp [oFront, oIf, namedB, fileB]
    show _ = oBody (15 : Int) a (oFront (15 : Int) a s)
    rw [hfr]
    simp only [pArgs]
    rw [hf _ hs, w_text (xs := a.to) e1 rfl, w_text (xs := a.toName) (by rw [isWr_oText]; exact e1) rfl]
    simp [oBody, oMore, oIf]
  · show (pArgs 16 (s, cellsOf a dv)).1 = _
    have hfr : oFront (16 : Int) a s = (oText 64 a.file s) := by simp [oFront, oIf, namedB, fileB]
    show _ = oBody (16 : Int) a (oFront (16 : Int) a s)
    rw [hfr]
    simp only [pArgs]
    rw [hf _ hs, w_u64s (v := a.cookie) (v2 := a.cookieVerf) e1 rfl rfl, w_u32 (v := a.count) (by rw [isWr_oU64, isWr_oU64]; exact e1) rfl]
    simp [oBody, oMore, oIf]
  · show (pArgs 17 (s, cellsOf a dv)).1 = _
    have hfr : oFront (17 : Int) a s = (oText 64 a.file s) := by simp [oFront, oIf, namedB, fileB]
    show _ = oBody (17 : Int) a (oFront (17 : Int) a s)
    rw [hfr]
    simp only [pArgs]
    rw [hf _ hs, w_u64s (v := a.cookie) (v2 := a.cookieVerf) e1 rfl rfl, w_u32s (v := a.dirCount) (v2 := a.maxCount) (by rw [isWr_oU64, isWr_oU64]; exact e1) rfl rfl]
    simp [oBody, oMore, oIf]
  · show (pArgs 18 (s, cellsOf a dv)).1 = _
    have hfr : oFront (18 : Int) a s = (oText 64 a.file s) := by simp [oFront, oIf, namedB, fileB]
    show _ = oBody (18 : Int) a (oFront (18 : Int) a s)
    rw [hfr]
    simp only [pArgs, hf _ hs]
    simp [oBody, oMore, oIf]
  · show (pArgs 19 (s, cellsOf a dv)).1 = _
    have hfr : oFront (19 : Int) a s = (oText 64 a.file s) := by simp [oFront, oIf, namedB, fileB]
    show _ = oBody (19 : Int) a (oFront (19 : Int) a s)
    rw [hfr]
    simp only [pArgs, hf _ hs]
    simp [oBody, oMore, oIf]
  · show (pArgs 20 (s, cellsOf a dv)).1 = _
    have hfr : oFront (20 : Int) a s = (oText 64 a.file s) := by simp [oFront, oIf, namedB, fileB]
    show _ = oBody (20 : Int) a (oFront (20 : Int) a s)
    rw [hfr]
    simp only [pArgs, hf _ hs]
    simp [oBody, oMore, oIf]
  · show (pArgs 21 (s, cellsOf a dv)).1 = _
    have hfr : oFront (21 : Int) a s = (oText 64 a.file s) := by simp [oFront, oIf, namedB, fileB]
    show _ = oBody (21 : Int) a (oFront (21 : Int) a s)
    rw [hfr]
    simp only [pArgs]
    rw [hf _ hs, w_u64 (v := a.offset) e1 rfl, w_u32 (v := a.count) (by rw [isWr_oU64]; exact e1) rfl]
    simp [oBody, oMore, oIf]
  · show (pArgs 100 (s, cellsOf a dv)).1 = _
    have hfr : oFront (100 : Int) a s = s := by simp [oFront, oIf, namedB, fileB]
    show _ = oBody (100 : Int) a (oFront (100 : Int) a s)
    rw [hfr]
    simp [pArgs, oBody, oMore]
  · show (pArgs 101 (s, cellsOf a dv)).1 = _
    have hfr : oFront (101 : Int) a s = s := by simp [oFront, oIf, namedB, fileB]
    show _ = oBody (101 : Int) a (oFront (101 : Int) a s)
    rw [hfr]
    rw [show pArgs 101 (s, cellsOf a dv) = (oText 1024 a.path s, cellsOf a dv) from w_text hs rfl]
    simp [oBody, oMore, oIf]
  · show (pArgs 102 (s, cellsOf a dv)).1 = _
    have hfr : oFront (102 : Int) a s = s := by simp [oFront, oIf, namedB, fileB]
    show _ = oBody (102 : Int) a (oFront (102 : Int) a s)
    rw [hfr]
    simp [pArgs, oBody, oMore]
  · show (pArgs 103 (s, cellsOf a dv)).1 = _
    have hfr : oFront (103 : Int) a s = s := by simp [oFront, oIf, namedB, fileB]
    show _ = oBody (103 : Int) a (oFront (103 : Int) a s)
    rw [hfr]
    rw [show pArgs 103 (s, cellsOf a dv) = (oText 1024 a.path s, cellsOf a dv) from w_text hs rfl]
    simp [oBody, oMore, oIf]
  · show (pArgs 104 (s, cellsOf a dv)).1 = _
    have hfr : oFront (104 : Int) a s = s := by simp [oFront, oIf, namedB, fileB]
    show _ = oBody (104 : Int) a (oFront (104 : Int) a s)
    rw [hfr]
    simp [pArgs, oBody, oMore]
  · show (pArgs 105 (s, cellsOf a dv)).1 = _
    have hfr : oFront (105 : Int) a s = s := by simp [oFront, oIf, namedB, fileB]
    show _ = oBody (105 : Int) a (oFront (105 : Int) a s)
    rw [hfr]
    simp [pArgs, oBody, oMore]

theorem wargs_eq (p : Int) (a : ArgsV) (dv : Value) : wargs p a dv = owargs p a := by
  unfold wargs owargs
  by_cases ht : there p = true
  · obtain ⟨k, rfl, hk⟩ := there_nat ht
    rw [if_pos ht, if_pos ht, Int.toNat_natCast, w_all k hk a dv _ rfl]
    have hw : (oBody (k : Int) a (oFront (k : Int) a (.wr false []))).isWr = true := by
      rw [← w_all k hk a dv _ rfl]
      exact (like_pAll k (.wr false [], cellsOf a dv) a.data).1
    generalize oBody (k : Int) a (oFront (k : Int) a (.wr false [])) = z at hw
    cases z with
    | wr b out => cases b <;> rfl
    | rd => simp [St.isWr] at hw
  · rw [if_neg ht, if_neg ht]

set_option maxRecDepth 100000 in
set_option maxHeartbeats 1000000 in
theorem RWriteArgs_any (q : Int) (a : ArgsV) (xo : Option Addr) (xc : Nat) (w : World) (hd : SlB w xo xc a.data) (hb : ∀ k, rb xo a.data.length k → k < w.heap.size) (hg : a.good) (hlen : a.len ≤ 400000) (dv : Value) :
    Calls Try.prog 13 #[.int .i64 q, .agg (a.cells (.slice xo a.data.length xc)).toArray] w fun e w' => ∃ yo yc, e = .returned (.tuple #[.slice yo (wargs q a dv).1.length yc, .int .i64 (wargs q a dv).2]) ∧
      OwnB w' yo yc (wargs q a dv).1 ∧ Mods (fun _ => False) w w' ∧ (∀ k, blk yo k → w.heap.size ≤ k) ∧ (wargs q a dv).1.length ≤ 1000000 := by
  rw [wargs_eq]
  unfold owargs
  by_cases ht : there q = true
  · rw [if_pos ht]
    exact RWriteArgs_yes q ht a xo xc w hd hb hg hlen
  · rw [if_neg ht]
    have ht' : there q = false := by simpa using ht
    have HIS := hid (RThere_any q)
    rw [ht'] at HIS
    obtain ⟨A, hAe⟩ : ∃ A, A = (a.cells (.slice xo a.data.length xc)).toArray := ⟨_, rfl⟩
    rw [← hAe]
    have hA1 : A[0]? = some (.string (str a.file)) := by rw [hAe]; rfl
    clear ht ht' hAe hd hb hg hlen
    go_enter Try.func13, Try.ntmps13
    go_wp2_with fail
    refine (HIS.out _).mono ?_
    rintro e w0 ⟨rfl, rfl⟩
    go_wp2
    go_ret2
    exact ⟨none, 0, rfl, OwnB.nil _, Mods.alloc _ _ _, fun k hk => hk.elim, Nat.zero_le _⟩

end Go.Proofs.Ytanknjpcgceccaa
