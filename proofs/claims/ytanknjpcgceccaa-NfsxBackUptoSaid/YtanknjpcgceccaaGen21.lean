/- Results as cells; nfsx.WriteRes of results without lines. (Printed by wip/tools/gen_gen21.py.) -/
import Derived.Test.YtanknjpcgceccaaGen20
import Derived.Test.YtanknjpcgceccaaGen12
namespace Go.Proofs.Ytanknjpcgceccaa
open Go.RowKit

/-- The results that lie in cells. -/
def resOf (A : Cells) (ds : List UInt8) : ResV := ⟨iv (A 0), ⟨bv (A 1), ⟨iv (A 2), iv (A 3), iv (A 4), iv (A 5), iv (A 6), iv (A 7), iv (A 8), iv (A 9), ⟨iv (A 10), iv (A 11)⟩, ⟨iv (A 12), iv (A 13)⟩, ⟨iv (A 14), iv (A 15)⟩⟩⟩, ⟨bv (A 16), ⟨iv (A 17), iv (A 18), iv (A 19), iv (A 20), iv (A 21), iv (A 22), iv (A 23), iv (A 24), ⟨iv (A 25), iv (A 26)⟩, ⟨iv (A 27), iv (A 28)⟩, ⟨iv (A 29), iv (A 30)⟩⟩⟩, ⟨bv (A 31), iv (A 32), ⟨iv (A 33), iv (A 34)⟩, ⟨iv (A 35), iv (A 36)⟩⟩, ⟨bv (A 37), iv (A 38), ⟨iv (A 39), iv (A 40)⟩, ⟨iv (A 41), iv (A 42)⟩⟩, ⟨bv (A 43), ⟨iv (A 44), iv (A 45), iv (A 46), iv (A 47), iv (A 48), iv (A 49), iv (A 50), iv (A 51), ⟨iv (A 52), iv (A 53)⟩, ⟨iv (A 54), iv (A 55)⟩, ⟨iv (A 56), iv (A 57)⟩⟩⟩, ⟨bv (A 58), ⟨iv (A 59), iv (A 60), iv (A 61), iv (A 62), iv (A 63), iv (A 64), iv (A 65), iv (A 66), ⟨iv (A 67), iv (A 68)⟩, ⟨iv (A 69), iv (A 70)⟩, ⟨iv (A 71), iv (A 72)⟩⟩⟩, bv (A 73), sv (A 74), iv (A 75), sv (A 76), iv (A 77), bv (A 78), ds, iv (A 80), iv (A 81), iv (A 82), [], iv (A 84), iv (A 85), iv (A 86), iv (A 87)⟩
def resCells (a : ResV) (dv ev : Value) : Cells := fun j => (a.cells dv ev)[j]?
set_option maxHeartbeats 8000000 in
theorem cells_resOf {dv ev : Value} {A : Cells} (h : Typed (resLay dv ev) A) (ds : List UInt8) (j : Nat) (hj : j < 88) : A j = ((resOf A ds).cells dv ev)[j]? := by
  match j, hj with
  | 0, _ => exact (h 0 _ rfl).iv
  | 1, _ => exact (h 1 _ rfl).bv
  | 2, _ => exact (h 2 _ rfl).iv
  | 3, _ => exact (h 3 _ rfl).iv
  | 4, _ => exact (h 4 _ rfl).iv
  | 5, _ => exact (h 5 _ rfl).u32v
  | 6, _ => exact (h 6 _ rfl).u32v
  | 7, _ => exact (h 7 _ rfl).u64v
  | 8, _ => exact (h 8 _ rfl).u64v
  | 9, _ => exact (h 9 _ rfl).u64v
  | 10, _ => exact (h 10 _ rfl).u32v
  | 11, _ => exact (h 11 _ rfl).u32v
  | 12, _ => exact (h 12 _ rfl).u32v
  | 13, _ => exact (h 13 _ rfl).u32v
  | 14, _ => exact (h 14 _ rfl).u32v
  | 15, _ => exact (h 15 _ rfl).u32v
  | 16, _ => exact (h 16 _ rfl).bv
  | 17, _ => exact (h 17 _ rfl).iv
  | 18, _ => exact (h 18 _ rfl).iv
  | 19, _ => exact (h 19 _ rfl).iv
  | 20, _ => exact (h 20 _ rfl).u32v
  | 21, _ => exact (h 21 _ rfl).u32v
  | 22, _ => exact (h 22 _ rfl).u64v
  | 23, _ => exact (h 23 _ rfl).u64v
  | 24, _ => exact (h 24 _ rfl).u64v
  | 25, _ => exact (h 25 _ rfl).u32v
  | 26, _ => exact (h 26 _ rfl).u32v
  | 27, _ => exact (h 27 _ rfl).u32v
  | 28, _ => exact (h 28 _ rfl).u32v
  | 29, _ => exact (h 29 _ rfl).u32v
  | 30, _ => exact (h 30 _ rfl).u32v
  | 31, _ => exact (h 31 _ rfl).bv
  | 32, _ => exact (h 32 _ rfl).u64v
  | 33, _ => exact (h 33 _ rfl).u32v
  | 34, _ => exact (h 34 _ rfl).u32v
  | 35, _ => exact (h 35 _ rfl).u32v
  | 36, _ => exact (h 36 _ rfl).u32v
  | 37, _ => exact (h 37 _ rfl).bv
  | 38, _ => exact (h 38 _ rfl).u64v
  | 39, _ => exact (h 39 _ rfl).u32v
  | 40, _ => exact (h 40 _ rfl).u32v
  | 41, _ => exact (h 41 _ rfl).u32v
  | 42, _ => exact (h 42 _ rfl).u32v
  | 43, _ => exact (h 43 _ rfl).bv
  | 44, _ => exact (h 44 _ rfl).iv
  | 45, _ => exact (h 45 _ rfl).iv
  | 46, _ => exact (h 46 _ rfl).iv
  | 47, _ => exact (h 47 _ rfl).u32v
  | 48, _ => exact (h 48 _ rfl).u32v
  | 49, _ => exact (h 49 _ rfl).u64v
  | 50, _ => exact (h 50 _ rfl).u64v
  | 51, _ => exact (h 51 _ rfl).u64v
  | 52, _ => exact (h 52 _ rfl).u32v
  | 53, _ => exact (h 53 _ rfl).u32v
  | 54, _ => exact (h 54 _ rfl).u32v
  | 55, _ => exact (h 55 _ rfl).u32v
  | 56, _ => exact (h 56 _ rfl).u32v
  | 57, _ => exact (h 57 _ rfl).u32v
  | 58, _ => exact (h 58 _ rfl).bv
  | 59, _ => exact (h 59 _ rfl).iv
  | 60, _ => exact (h 60 _ rfl).iv
  | 61, _ => exact (h 61 _ rfl).iv
  | 62, _ => exact (h 62 _ rfl).u32v
  | 63, _ => exact (h 63 _ rfl).u32v
  | 64, _ => exact (h 64 _ rfl).u64v
  | 65, _ => exact (h 65 _ rfl).u64v
  | 66, _ => exact (h 66 _ rfl).u64v
  | 67, _ => exact (h 67 _ rfl).u32v
  | 68, _ => exact (h 68 _ rfl).u32v
  | 69, _ => exact (h 69 _ rfl).u32v
  | 70, _ => exact (h 70 _ rfl).u32v
  | 71, _ => exact (h 71 _ rfl).u32v
  | 72, _ => exact (h 72 _ rfl).u32v
  | 73, _ => exact (h 73 _ rfl).bv
  | 74, _ => exact (h 74 _ rfl).sv.1
  | 75, _ => exact (h 75 _ rfl).u32v
  | 76, _ => exact (h 76 _ rfl).sv.1
  | 77, _ => exact (h 77 _ rfl).u32v
  | 78, _ => exact (h 78 _ rfl).bv
  | 79, _ => exact (h 79 _ rfl)
  | 80, _ => exact (h 80 _ rfl).iv
  | 81, _ => exact (h 81 _ rfl).u64v
  | 82, _ => exact (h 82 _ rfl).u64v
  | 83, _ => exact (h 83 _ rfl)
  | 84, _ => exact (h 84 _ rfl).u64v
  | 85, _ => exact (h 85 _ rfl).u64v
  | 86, _ => exact (h 86 _ rfl).u64v
  | 87, _ => exact (h 87 _ rfl).u64v
  | j + 88, h => exact absurd h (by omega)

/-- No string, no data too long; no line of a directory. -/
def ResV.few (a : ResV) : Prop := a.handle.length ≤ 2000000 ∧ a.path.length ≤ 2000000 ∧ a.data.length ≤ 2000000 ∧ a.entries = []
def TypedL (lay : List Ty) (cs : List Value) : Prop := lay.length = cs.length ∧ ∀ (j : Nat) (t : Ty), lay[j]? = some t → HasTy t cs[j]?
theorem TypedL.app {l1 l2 : List Ty} {c1 c2 : List Value} (h1 : TypedL l1 c1) (h2 : TypedL l2 c2) : TypedL (l1 ++ l2) (c1 ++ c2) := by
  refine ⟨by rw [List.length_append, List.length_append, h1.1, h2.1], fun j t hj => ?_⟩
  by_cases hlt : j < l1.length
  · rw [List.getElem?_append_left hlt] at hj
    rw [List.getElem?_append_left (by rw [← h1.1]; exact hlt)]
    exact h1.2 j t hj
  · rw [List.getElem?_append_right (by omega)] at hj
    rw [List.getElem?_append_right (by rw [← h1.1]; omega), ← h1.1]
    exact h2.2 _ t hj
theorem typedl_attr {a : AttrV} (h : a.good) : TypedL attrLay a.cells := by
  obtain ⟨_, _, _, m1, m2, m3, m4, m5, ⟨m6, m7⟩, ⟨m8, m9⟩, m10, m11⟩ := h
  refine ⟨rfl, fun j t hj => ?_⟩
  have hlt : j < 14 := (List.getElem?_eq_some_iff.1 hj).1
  match j, hlt with
  | 0, _ => obtain rfl := Option.some.inj hj; exact ⟨_, rfl⟩
  | 1, _ => obtain rfl := Option.some.inj hj; exact ⟨_, rfl⟩
  | 2, _ => obtain rfl := Option.some.inj hj; exact ⟨_, rfl⟩
  | 3, _ => obtain rfl := Option.some.inj hj; exact ⟨_, rfl, m1.1, m1.2⟩
  | 4, _ => obtain rfl := Option.some.inj hj; exact ⟨_, rfl, m2.1, m2.2⟩
  | 5, _ => obtain rfl := Option.some.inj hj; exact ⟨_, rfl, m3.1, m3.2⟩
  | 6, _ => obtain rfl := Option.some.inj hj; exact ⟨_, rfl, m4.1, m4.2⟩
  | 7, _ => obtain rfl := Option.some.inj hj; exact ⟨_, rfl, m5.1, m5.2⟩
  | 8, _ => obtain rfl := Option.some.inj hj; exact ⟨_, rfl, m6.1, m6.2⟩
  | 9, _ => obtain rfl := Option.some.inj hj; exact ⟨_, rfl, m7.1, m7.2⟩
  | 10, _ => obtain rfl := Option.some.inj hj; exact ⟨_, rfl, m8.1, m8.2⟩
  | 11, _ => obtain rfl := Option.some.inj hj; exact ⟨_, rfl, m9.1, m9.2⟩
  | 12, _ => obtain rfl := Option.some.inj hj; exact ⟨_, rfl, m10.1, m10.2⟩
  | 13, _ => obtain rfl := Option.some.inj hj; exact ⟨_, rfl, m11.1, m11.2⟩
theorem typedl_post {a : PostV} (h : a.good) : TypedL postLay a.cells := TypedL.app (l1 := [.bool]) ⟨rfl, fun j t hj => by
  match j with
  | 0 => obtain rfl := Option.some.inj hj; exact ⟨_, rfl⟩
  | j + 1 => simp at hj⟩ (typedl_attr h)
theorem typedl_wcc {a : WccV} (h : a.good) : TypedL wccLay a.cells := by
  obtain ⟨m1, ⟨m2, m3⟩, m4, m5⟩ := h
  refine ⟨rfl, fun j t hj => ?_⟩
  have hlt : j < 6 := (List.getElem?_eq_some_iff.1 hj).1
  match j, hlt with
  | 0, _ => obtain rfl := Option.some.inj hj; exact ⟨_, rfl⟩
  | 1, _ => obtain rfl := Option.some.inj hj; exact ⟨_, rfl, m1.1, m1.2⟩
  | 2, _ => obtain rfl := Option.some.inj hj; exact ⟨_, rfl, m2.1, m2.2⟩
  | 3, _ => obtain rfl := Option.some.inj hj; exact ⟨_, rfl, m3.1, m3.2⟩
  | 4, _ => obtain rfl := Option.some.inj hj; exact ⟨_, rfl, m4.1, m4.2⟩
  | 5, _ => obtain rfl := Option.some.inj hj; exact ⟨_, rfl, m5.1, m5.2⟩
theorem typed_res {a : ResV} (hg : a.good) (hf : a.few) (dv ev : Value) : Typed (resLay dv ev) (resCells a dv ev) := by
  obtain ⟨_, g1, g2, g3, g4, g5, g6, m1, m2, _, m3, m4, _, m5, m6, m7, m8⟩ := hg
  obtain ⟨f1, f2, _, _⟩ := hf
  have hlast : TypedL [.bool, .str, .u32, .str, .u32, .bool, .is dv, .int, .u64, .u64, .is ev, .u64, .u64, .u64, .u64] [.bool a.hasHandle, .string (str a.handle), .int .u32 a.access, .string (str a.path), .int .u32 a.count, .bool a.eof, dv, .int .i64 a.committed, .int .u64 a.verf, .int .u64 a.cookieVerf, ev, .int .u64 a.bytes, .int .u64 a.freeBytes, .int .u64 a.files, .int .u64 a.freeFiles] := by
    refine ⟨rfl, fun j t hj => ?_⟩
    have hlt : j < 15 := (List.getElem?_eq_some_iff.1 hj).1
    match j, hlt with
    | 0, _ => obtain rfl := Option.some.inj hj; exact ⟨_, rfl⟩
    | 1, _ => obtain rfl := Option.some.inj hj; exact ⟨_, rfl, f1⟩
    | 2, _ => obtain rfl := Option.some.inj hj; exact ⟨_, rfl, m1.1, m1.2⟩
    | 3, _ => obtain rfl := Option.some.inj hj; exact ⟨_, rfl, f2⟩
    | 4, _ => obtain rfl := Option.some.inj hj; exact ⟨_, rfl, m2.1, m2.2⟩
    | 5, _ => obtain rfl := Option.some.inj hj; exact ⟨_, rfl⟩
    | 6, _ => obtain rfl := Option.some.inj hj; exact rfl
    | 7, _ => obtain rfl := Option.some.inj hj; exact ⟨_, rfl⟩
    | 8, _ => obtain rfl := Option.some.inj hj; exact ⟨_, rfl, m3.1, m3.2⟩
    | 9, _ => obtain rfl := Option.some.inj hj; exact ⟨_, rfl, m4.1, m4.2⟩
    | 10, _ => obtain rfl := Option.some.inj hj; exact rfl
    | 11, _ => obtain rfl := Option.some.inj hj; exact ⟨_, rfl, m5.1, m5.2⟩
    | 12, _ => obtain rfl := Option.some.inj hj; exact ⟨_, rfl, m6.1, m6.2⟩
    | 13, _ => obtain rfl := Option.some.inj hj; exact ⟨_, rfl, m7.1, m7.2⟩
    | 14, _ => obtain rfl := Option.some.inj hj; exact ⟨_, rfl, m8.1, m8.2⟩
  have h := TypedL.app (l1 := [.int]) (c1 := [.int .i64 a.status]) ⟨rfl, fun j t hj => by
    match j with
    | 0 => obtain rfl := Option.some.inj hj; exact ⟨_, rfl⟩
    | j + 1 => simp at hj⟩ ((typedl_post g1).app ((typedl_post g2).app ((typedl_wcc g3).app ((typedl_wcc g4).app ((typedl_post g5).app ((typedl_post g6).app hlast))))))
  intro j t hj
  have := h.2 j t hj
  show HasTy t (a.cells dv ev)[j]?
  simp only [ResV.cells, List.append_assoc]
  exact this

/-! ### It writes, or it reads, to the end -/
theorem like_sFix (n : Nat) (v : Int) (s : St) : Like (sFix n v s) s := (like_must _ _).trans (like_num _ _ _)
theorem like_sFixed (l : List Int) : ∀ s : St, Like (sFixed l s) s := by
  induction l with
  | nil => intro s; exact Like.refl _
  | cons v l ih => intro s; exact (ih (sFix 4 v s)).trans (like_sFix _ _ _)
theorem like_pFixed (l : List Int) (x : X) : Like (pFixed l x).1 x.1 := like_sFixed _ _
theorem like_pFixed64 (v : Int) (x : X) : Like (pFixed64 v x).1 x.1 := like_sFix _ _ _
theorem like_pMust (b : Bool) (x : X) : Like (pMust b x).1 x.1 := like_must _ _
theorem like_pAttr (o : Nat) (x : X) : Like (pAttr o x).1 x.1 :=
  (like_pTime _ _).trans ((like_pTime _ _).trans ((like_pTime _ _).trans ((like_num1 _ _ _ _).trans ((like_pFixed64 _ _).trans ((like_pFixed _ _).trans ((like_nums2 _ _ _ _ _).trans ((like_nums2 _ _ _ _ _).trans ((like_pNumber _ _ _ _).trans ((like_pNumber _ _ _ _).trans ((like_pMust _ _).trans (like_pNumber _ _ _ _)))))))))))
theorem like_pPost (o : Nat) (x : X) : Like (pPost o x).1 x.1 := (like_pIf (like_pAttr _ _)).trans (like_pTruth _ _)
theorem like_pBefore (o : Nat) (x : X) : Like (pBefore o x).1 x.1 := by
  have h : ∀ y : X, Like (pTime (o + 4) (pTime (o + 2) (num1 8 .u64 (o + 1) y))).1 y.1 := fun y => (like_pTime _ _).trans ((like_pTime _ _).trans (like_num1 _ _ _ _))
  exact (like_pIf (f := fun x => pTime (o + 4) (pTime (o + 2) (num1 8 .u64 (o + 1) x))) (h _)).trans (like_pTruth _ _)
theorem like_pWcc (o p : Nat) (x : X) : Like (pWcc o p x).1 x.1 := (like_pPost _ _).trans (like_pBefore _ _)
theorem like_pHandle (a b : Nat) (x : X) : Like (pHandle a b x).1 x.1 := (like_pIf (like_pText _ _ _)).trans (like_pTruth _ _)
theorem like_pFound (x : X) : Like (pFound x).1 x.1 := like_pText _ _ _
theorem like_ite {b : Bool} {y x : X} (h : Like y.1 x.1) : Like (if b then y else x).1 x.1 := by
  split
  · exact h
  · exact Like.refl _
set_option maxHeartbeats 2000000 in
theorem like_pFront (k : Nat) (ok : Bool) (x : X) : Like (pFront k ok x).1 x.1 := by
  unfold pFront
  split
  · exact like_pWcc _ _ _
  · exact (like_pPost _ _).trans (like_ite ((like_pPost _ _).trans (like_pFound _)))
  · exact like_pPost _ _
  · exact like_pPost _ _
  · exact like_pPost _ _
  · exact like_pWcc _ _ _
  · exact (like_pWcc _ _ _).trans (like_ite ((like_pPost _ _).trans (like_pHandle _ _ _)))
  · exact (like_pWcc _ _ _).trans (like_ite ((like_pPost _ _).trans (like_pHandle _ _ _)))
  · exact (like_pWcc _ _ _).trans (like_ite ((like_pPost _ _).trans (like_pHandle _ _ _)))
  · exact (like_pWcc _ _ _).trans (like_ite ((like_pPost _ _).trans (like_pHandle _ _ _)))
  · exact like_pWcc _ _ _
  · exact like_pWcc _ _ _
  · exact (like_pWcc _ _ _).trans (like_pWcc _ _ _)
  · exact (like_pWcc _ _ _).trans (like_pPost _ _)
  · exact like_pPost _ _
  · exact like_pPost _ _
  · exact like_pPost _ _
  · exact like_pPost _ _
  · exact like_pPost _ _
  · exact like_pWcc _ _ _
  · exact Like.refl _
theorem like_entries0 (x : X) : Like (pEntries0 x).1 x.1 := by
  unfold pEntries0
  split
  · exact like_must _ _
  · exact (like_truth _ _).trans (like_must _ _)
set_option maxHeartbeats 2000000 in
theorem like_pGood (k : Nat) (x : X) : Like (pGood k x).1 x.1 := by
  unfold pGood
  split
  · exact (like_pAttr _ _).trans (like_ite (like_pMust _ _))
  · exact like_num1 _ _ _ _
  · exact like_pText _ _ _
  · exact (like_pTruth _ _).trans (like_num1 _ _ _ _)
  · exact (like_num1 _ _ _ _).trans ((like_pNumber _ _ _ _).trans (like_num1 _ _ _ _))
  · exact (like_pTruth _ _).trans ((like_entries0 _).trans (like_num1 _ _ _ _))
  · exact (like_pTruth _ _).trans ((like_entries0 _).trans (like_num1 _ _ _ _))
  · exact (like_pFixed _ _).trans ((like_pFixed64 _ _).trans (like_pFixed _ _))
  · exact like_pFixed _ _
  · exact like_num1 _ _ _ _
  · exact (like_pFixed _ _).trans (like_pFound _)
  · exact Like.refl _
theorem like_pSpace (x : X) : Like (pSpace x).1 x.1 := by
  unfold pSpace
  split
  · exact (like_pFixed _ _).trans ((like_num1 _ _ _ _).trans ((like_nums2 _ _ _ _ _).trans ((like_num1 _ _ _ _).trans (like_nums2 _ _ _ _ _))))
  · exact (like_pFixed _ _).trans ((like_pMust _ _).trans ((like_num _ _ _).trans ((like_nums2 _ _ _ _ _).trans ((like_num _ _ _).trans (like_nums2 _ _ _ _ _)))))
theorem like_gAll (k : Nat) (y : X) (ds : List UInt8) : Like (gAll k y ds).1.1 y.1 := by
  unfold gAll
  split
  · exact (like_row _ _ _).trans (like_pGood _ _)
  · split
    · exact like_pSpace _
    · exact like_pGood _ _
theorem like_pStat (x : X) : Like (pStat x).1 x.1 := by
  have h0 : Like (pStat0 x) x.1 := by
    unfold pStat0; split
    · exact like_must _ _
    · exact Like.refl _
  exact (like_must _ _).trans ((like_number _ _ _ _).trans h0)
theorem like_rFront (k : Nat) (x : X) : Like (rFront k x).1 x.1 := (like_pFront _ _ _).trans (like_pStat _)
theorem like_rAll (k : Nat) (x : X) (ds : List UInt8) : Like (rAll k x ds).1.1 x.1 := by
  unfold rAll
  split
  · unfold rOther
    split
    · exact like_pFixed _ _
    · exact (like_pFixed _ _).trans ((like_must _ _).trans ((like_row _ _ _).trans (like_pFixed _ _)))
    · exact Like.refl _
  · unfold rTells
    split
    · exact (like_gAll _ _ _).trans (like_rFront _ _)
    · exact like_rFront _ _
/-- Written, no line is told where there is none. -/
theorem NoLines.wr {k : Nat} {x : X} (h : x.1.isWr = true) : NoLines k (rFront k x) := by
  intro _ _
  have h1 : (num1 8 .u64 82 (rFront k x)).1.isWr = true := (like_num1 _ _ _ _).1.trans ((like_rFront k x).1.trans h)
  cases hs : (num1 8 .u64 82 (rFront k x)).1 with
  | wr b out => rfl
  | rd a b c d => rw [hs] at h1; cases h1

end Go.Proofs.Ytanknjpcgceccaa
