/- Lines of a directory, plainly: one line in cells, what one round does, all of them. -/
import Derived.Test.YtanknjpcgceccaaGen21
namespace Go.Proofs.Ytanknjpcgceccaa
open Go.RowKit

/-! ### Part of a struct -/
/-- y's cells lie in x's from o on, n of them; the states are the same. -/
structure Sh (o n : Nat) (x y : X) : Prop where
  st : x.1 = y.1
  cell : ∀ j, j < n → x.2 (o + j) = y.2 j
section
variable {o n : Nat} {x y : X}
theorem Sh.put (h : Sh o n x y) (j : Nat) (s : St) (v : Value) : Sh o n (s, upd x.2 (o + j) v) (s, upd y.2 j v) := ⟨rfl, fun k hk => by
  by_cases e : k = j
  · subst e; simp only [upd_at]
  · show upd x.2 (o + j) v (o + k) = upd y.2 j v k
    rw [upd_ne _ _ e, upd_ne _ _ (by omega : o + k ≠ o + j)]; exact h.cell k hk⟩
theorem Sh.truth (h : Sh o n x y) {j : Nat} (hj : j < n) : Sh o n (pTruth (o + j) x) (pTruth j y) := by
  unfold pTruth; rw [h.st, h.cell j hj]; exact h.put j _ _
theorem Sh.number (h : Sh o n x y) {j : Nat} (hj : j < n) {lo hi : Int} : Sh o n (pNumber lo hi (o + j) x) (pNumber lo hi j y) := by
  unfold pNumber; rw [h.st, h.cell j hj]; exact h.put j _ _
theorem Sh.num1 (h : Sh o n x y) {j : Nat} (hj : j < n) {m : Nat} {k : IntKind} : Sh o n (num1 m k (o + j) x) (num1 m k j y) := by
  unfold Go.Proofs.Ytanknjpcgceccaa.num1; rw [h.st, h.cell j hj]; exact h.put j _ _
theorem Sh.text (h : Sh o n x y) {j : Nat} (hj : j < n) {m : Int} : Sh o n (pText m (o + j) x) (pText m j y) := by
  unfold pText; rw [h.st, h.cell j hj]; exact h.put j _ _
theorem Sh.time (h : Sh o n x y) {j : Nat} (hj : j + 1 < n) : Sh o n (pTime (o + j) x) (pTime j y) := (h.num1 (m := 4) (k := .u32) (by omega : j < n)).num1 (m := 4) (k := .u32) hj
theorem Sh.pif (h : Sh o n x y) {j : Nat} (hj : j < n) {f g : X → X} (hf : Sh o n (f x) (g y)) : Sh o n (pIf (o + j) f x) (pIf j g y) := by
  unfold pIf; rw [h.cell j hj]; split
  · exact hf
  · exact h
theorem Sh.how (h : Sh o n x y) {v t : Nat} (hv : v < n) (ht : t + 1 < n) : Sh o n (pHow (o + v) (o + t) x) (pHow v t y) := by
  have h1 := h.number (lo := 0) (hi := 2) hv
  unfold pHow
  simp only
  rw [h1.cell v hv]
  split
  · exact h1.time ht
  · have h2 := h1.put t (pNumber 0 2 v y).1 (.int .u32 0)
    have h3 := h2.put (t + 1) (pNumber 0 2 v y).1 (.int .u32 0)
    exact ⟨h1.st, h3.cell⟩
theorem Sh.must (h : Sh o n x y) (b : Bool) : Sh o n (pMust b x) (pMust b y) := by
  unfold pMust; rw [h.st]; exact ⟨rfl, h.cell⟩
theorem Sh.fixed (h : Sh o n x y) (l : List Int) : Sh o n (pFixed l x) (pFixed l y) := by
  unfold pFixed; rw [h.st]; exact ⟨rfl, h.cell⟩
theorem Sh.fixed64 (h : Sh o n x y) (v : Int) : Sh o n (pFixed64 v x) (pFixed64 v y) := by
  unfold pFixed64; rw [h.st]; exact ⟨rfl, h.cell⟩
end
/-- But for n cells from o on x' has x's cells. -/
def Fr (o n : Nat) (x x' : X) : Prop := ∀ j, j < o ∨ o + n ≤ j → x'.2 j = x.2 j
section
variable {o n : Nat} {x y : X}
theorem Fr.refl (o n : Nat) (x : X) : Fr o n x x := fun _ _ => rfl
theorem Fr.put (h : Fr o n x y) {j : Nat} (hj : o ≤ j ∧ j < o + n) (s : St) (v : Value) : Fr o n x (s, upd y.2 j v) := fun k hk => (upd_ne _ _ (by omega)).trans (h k hk)
theorem Fr.truth (h : Fr o n x y) {j : Nat} (hj : o ≤ j ∧ j < o + n) : Fr o n x (pTruth j y) := h.put hj _ _
theorem Fr.number (h : Fr o n x y) {j : Nat} (hj : o ≤ j ∧ j < o + n) {lo hi : Int} : Fr o n x (pNumber lo hi j y) := h.put hj _ _
theorem Fr.num1 (h : Fr o n x y) {j : Nat} (hj : o ≤ j ∧ j < o + n) {m : Nat} {k : IntKind} : Fr o n x (num1 m k j y) := h.put hj _ _
theorem Fr.text (h : Fr o n x y) {j : Nat} (hj : o ≤ j ∧ j < o + n) {m : Int} : Fr o n x (pText m j y) := h.put hj _ _
theorem Fr.time (h : Fr o n x y) {j : Nat} (hj : o ≤ j ∧ j + 1 < o + n) : Fr o n x (pTime j y) := (h.num1 (m := 4) (k := .u32) (j := j) ⟨hj.1, by omega⟩).num1 (m := 4) (k := .u32) (j := j + 1) ⟨by omega, hj.2⟩
theorem Fr.pif (h : Fr o n x y) {j : Nat} {f : X → X} (hf : Fr o n x (f y)) : Fr o n x (pIf j f y) := by
  unfold pIf; split
  · exact hf
  · exact h
theorem Fr.how (h : Fr o n x y) {v t : Nat} (hv : o ≤ v ∧ v < o + n) (ht : o ≤ t ∧ t + 1 < o + n) : Fr o n x (pHow v t y) := by
  have h1 := h.number (lo := 0) (hi := 2) hv
  unfold pHow
  simp only
  split
  · exact h1.time ht
  · exact (h1.put (j := t) ⟨ht.1, by omega⟩ (pNumber 0 2 v y).1 _).put (j := t + 1) ⟨by omega, ht.2⟩ (pNumber 0 2 v y).1 _
theorem Fr.must (h : Fr o n x y) (b : Bool) : Fr o n x (pMust b y) := h
theorem Fr.fixed (h : Fr o n x y) (l : List Int) : Fr o n x (pFixed l y) := h
theorem Fr.fixed64 (h : Fr o n x y) (v : Int) : Fr o n x (pFixed64 v y) := h
end

theorem Sh.attr {b n : Nat} {x y : X} (h : Sh b n x y) {o : Nat} (ho : o + 13 < n) : Sh b n (pAttr (b + o) x) (pAttr o y) := by
  have h0 := h.number (j := o) (by omega) (lo := 0) (hi := 4294967295)
  have h1 : Sh b n (pAttr0 (b + o) x) (pAttr0 o y) := by
    unfold pAttr0
    simp only
    rw [h0.cell o (by omega)]
    exact h0.must _
  have h2 := h1.number (j := o + 1) (by omega) (lo := 0) (hi := 4294967295)
  have h3 := h2.number (j := o + 2) (by omega) (lo := 0) (hi := 4294967295)
  have h4 := (h3.num1 (j := o + 3) (by omega) (m := 4) (k := .u32)).num1 (j := o + 4) (by omega) (m := 4) (k := .u32)
  have h5 := (h4.num1 (j := o + 5) (by omega) (m := 8) (k := .u64)).num1 (j := o + 6) (by omega) (m := 8) (k := .u64)
  have h6 := ((h5.fixed [0, 0]).fixed64 1).num1 (j := o + 7) (by omega) (m := 8) (k := .u64)
  exact ((h6.time (j := o + 8) (by omega)).time (j := o + 10) (by omega)).time (j := o + 12) (by omega)
theorem Sh.post {b n : Nat} {x y : X} (h : Sh b n x y) {o : Nat} (ho : o + 14 < n) : Sh b n (pPost (b + o) x) (pPost o y) :=
  (h.truth (j := o) (by omega)).pif (by omega) ((h.truth (j := o) (by omega)).attr (o := o + 1) (by omega))
theorem Sh.handle {b n : Nat} {x y : X} (h : Sh b n x y) {o p : Nat} (ho : o < n) (hp : p < n) : Sh b n (pHandle (b + o) (b + p) x) (pHandle o p y) :=
  (h.truth (j := o) ho).pif ho ((h.truth (j := o) ho).text (j := p) hp)
theorem Fr.attr {b n : Nat} {x y : X} (h : Fr b n x y) {o : Nat} (ho : b ≤ o ∧ o + 13 < b + n) : Fr b n x (pAttr o y) := by
  have h0 := h.number (j := o) (by omega) (lo := 0) (hi := 4294967295)
  have h1 : Fr b n x (pAttr0 o y) := h0
  have h2 := h1.number (j := o + 1) (by omega) (lo := 0) (hi := 4294967295)
  have h3 := h2.number (j := o + 2) (by omega) (lo := 0) (hi := 4294967295)
  have h4 := (h3.num1 (j := o + 3) (by omega) (m := 4) (k := .u32)).num1 (j := o + 4) (by omega) (m := 4) (k := .u32)
  have h5 := (h4.num1 (j := o + 5) (by omega) (m := 8) (k := .u64)).num1 (j := o + 6) (by omega) (m := 8) (k := .u64)
  have h6 := ((h5.fixed [0, 0]).fixed64 1).num1 (j := o + 7) (by omega) (m := 8) (k := .u64)
  exact ((h6.time (j := o + 8) (by omega)).time (j := o + 10) (by omega)).time (j := o + 12) (by omega)
theorem Fr.post {b n : Nat} {x y : X} (h : Fr b n x y) {o : Nat} (ho : b ≤ o ∧ o + 14 < b + n) : Fr b n x (pPost o y) :=
  (h.truth (j := o) (by omega)).pif ((h.truth (j := o) (by omega)).attr (o := o + 1) (by omega))
theorem Fr.handle {b n : Nat} {x y : X} (h : Fr b n x y) {o p : Nat} (ho : b ≤ o ∧ o < b + n) (hp : b ≤ p ∧ p < b + n) : Fr b n x (pHandle o p y) :=
  (h.truth (j := o) ho).pif ((h.truth (j := o) ho).text (j := p) hp)

/-! ### A line -/
def eLay : List Ty := [.u64, .str, .u64] ++ (postLay ++ [.bool, .str])
def EntryV.at (e : EntryV) : Cells := fun j => e.cells[j]?
def entryOf (A : Cells) : EntryV := ⟨iv (A 0), sv (A 1), iv (A 2), ⟨bv (A 3), ⟨iv (A 4), iv (A 5), iv (A 6), iv (A 7), iv (A 8), iv (A 9), iv (A 10), iv (A 11), ⟨iv (A 12), iv (A 13)⟩, ⟨iv (A 14), iv (A 15)⟩, ⟨iv (A 16), iv (A 17)⟩⟩⟩, bv (A 18), sv (A 19)⟩
def zeroE : EntryV := ⟨0, [], 0, ⟨false, ⟨0, 0, 0, 0, 0, 0, 0, 0, ⟨0, 0⟩, ⟨0, 0⟩, ⟨0, 0⟩⟩⟩, false, []⟩
/-- Its cells are as they must be. -/
def EntryV.ok (e : EntryV) : Prop := Typed eLay e.at
theorem cells_entryOf {A : Cells} (h : Typed eLay A) (j : Nat) (hj : j < 20) : A j = (entryOf A).at j := by
  match j, hj with
  | 0, _ => exact (h 0 _ rfl).u64v
  | 1, _ => exact (h 1 _ rfl).sv.1
  | 2, _ => exact (h 2 _ rfl).u64v
  | 3, _ => exact (h 3 _ rfl).bv
  | 4, _ => exact (h 4 _ rfl).iv
  | 5, _ => exact (h 5 _ rfl).iv
  | 6, _ => exact (h 6 _ rfl).iv
  | 7, _ => exact (h 7 _ rfl).u32v
  | 8, _ => exact (h 8 _ rfl).u32v
  | 9, _ => exact (h 9 _ rfl).u64v
  | 10, _ => exact (h 10 _ rfl).u64v
  | 11, _ => exact (h 11 _ rfl).u64v
  | 12, _ => exact (h 12 _ rfl).u32v
  | 13, _ => exact (h 13 _ rfl).u32v
  | 14, _ => exact (h 14 _ rfl).u32v
  | 15, _ => exact (h 15 _ rfl).u32v
  | 16, _ => exact (h 16 _ rfl).u32v
  | 17, _ => exact (h 17 _ rfl).u32v
  | 18, _ => exact (h 18 _ rfl).bv
  | 19, _ => exact (h 19 _ rfl).sv.1
  | j + 20, h => exact absurd h (by omega)
theorem entry_at (e : EntryV) : entryOf e.at = e := by
  obtain ⟨f, nm, ck, ⟨hs, ⟨t, m, n, u, gi, s, us, fi, ⟨a1, a2⟩, ⟨m1, m2⟩, ⟨c1, c2⟩⟩⟩, hh, hd⟩ := e
  show EntryV.mk f (sv (some (.string (str nm)))) ck ⟨hs, ⟨t, m, n, u, gi, s, us, fi, ⟨a1, a2⟩, ⟨m1, m2⟩, ⟨c1, c2⟩⟩⟩ hh (sv (some (.string (str hd)))) = _
  rw [sv_str, sv_str]
theorem eLay_lt {j : Nat} {t : Ty} (h : eLay[j]? = some t) : j < 20 := (List.getElem?_eq_some_iff.1 h).1
theorem ok_of {A : Cells} (h : Typed eLay A) : (entryOf A).ok := fun j t hj => by rw [← cells_entryOf h j (eLay_lt hj)]; exact h j t hj
theorem EntryV.good.ok {e : EntryV} (h : e.good) (h1 : e.name.length ≤ 2000000) (h2 : e.handle.length ≤ 2000000) : e.ok := by
  obtain ⟨m1, m2, m3⟩ := h
  have hl : TypedL eLay e.cells := by
    have := TypedL.app (l1 := [.u64, .str, .u64]) (c1 := [.int .u64 e.fileid, .string (str e.name), .int .u64 e.cookie]) ⟨rfl, fun j t hj => by
      have hlt : j < 3 := (List.getElem?_eq_some_iff.1 hj).1
      match j, hlt with
      | 0, _ => obtain rfl := Option.some.inj hj; exact ⟨_, rfl, m1.1, m1.2⟩
      | 1, _ => obtain rfl := Option.some.inj hj; exact ⟨_, rfl, h1⟩
      | 2, _ => obtain rfl := Option.some.inj hj; exact ⟨_, rfl, m2.1, m2.2⟩⟩ ((typedl_post m3).app (l2 := [.bool, .str]) (c2 := [.bool e.hasHandle, .string (str e.handle)]) ⟨rfl, fun j t hj => by
      have hlt : j < 2 := (List.getElem?_eq_some_iff.1 hj).1
      match j, hlt with
      | 0, _ => obtain rfl := Option.some.inj hj; exact ⟨_, rfl⟩
      | 1, _ => obtain rfl := Option.some.inj hj; exact ⟨_, rfl, h2⟩⟩)
    show TypedL ([Ty.u64, Ty.str, Ty.u64] ++ (postLay ++ [Ty.bool, Ty.str])) _
    simpa only [EntryV.cells, List.append_assoc] using this
  exact fun j t hj => hl.2 j t hj
theorem zeroE_ok : zeroE.ok := EntryV.good.ok (by simp [zeroE, EntryV.good, PostV.good, AttrV.good, TimeV.good]) (by simp [zeroE]) (by simp [zeroE])
theorem entry_len (e : EntryV) : e.cells.length = 20 := rfl

/-- A line that lies from o on, through the coder. -/
def pEntry (plus : Bool) (o : Nat) (x : X) : X :=
  let x3 := num1 8 .u64 (o + 2) (pText 255 (o + 1) (num1 8 .u64 o x))
  if plus then pHandle (o + 18) (o + 19) (pPost (o + 3) x3) else x3
theorem Sh.entry {b n : Nat} {x y : X} (h : Sh b n x y) (hn : 20 ≤ n) (plus : Bool) : Sh b n (pEntry plus b x) (pEntry plus 0 y) := by
  have h3 := ((h.num1 (j := 0) (by omega) (m := 8) (k := .u64)).text (j := 1) (by omega) (m := 255)).num1 (j := 2) (by omega) (m := 8) (k := .u64)
  unfold pEntry
  cases plus
  · exact h3
  · exact (h3.post (o := 3) (by omega)).handle (o := 18) (p := 19) (by omega) (by omega)
theorem Fr.entry {b n : Nat} {x y : X} (h : Fr b n x y) (hn : 20 ≤ n) (plus : Bool) : Fr b n x (pEntry plus b y) := by
  have h3 := ((h.num1 (j := b) (by omega) (m := 8) (k := .u64)).text (j := b + 1) (by omega) (m := 255)).num1 (j := b + 2) (by omega) (m := 8) (k := .u64)
  unfold pEntry
  cases plus
  · exact h3
  · exact (h3.post (o := b + 3) (by omega)).handle (o := b + 18) (p := b + 19) (by omega) (by omega)
theorem like_pEntry (plus : Bool) (o : Nat) (x : X) : Like (pEntry plus o x).1 x.1 := by
  have h3 : Like (num1 8 .u64 (o + 2) (pText 255 (o + 1) (num1 8 .u64 o x))).1 x.1 := (like_num1 _ _ _ _).trans ((like_pText _ _ _).trans (like_num1 _ _ _ _))
  unfold pEntry
  cases plus
  · exact h3
  · exact (like_pHandle _ _ _).trans ((like_pPost _ _).trans h3)
/-- What may not be so stays so. -/
def Worse (s t : St) : Prop := t.bad = true → s.bad = true
theorem Worse.refl (s : St) : Worse s s := fun h => h
theorem Worse.trans {a b c : St} (h : Worse a b) (g : Worse b c) : Worse a c := fun hc => h (g hc)
theorem worse_must (s : St) (b : Bool) : Worse (s.must b) s := by cases s <;> (intro h; simp only [St.bad] at h; simp only [St.must, St.bad, h, Bool.true_or])
theorem worse_num (s : St) (n : Nat) (v : Int) : Worse (s.num n v).2 s := by cases s <;> exact fun h => h
theorem worse_truth (s : St) (b : Bool) : Worse (s.truth b).2 s := by cases s <;> exact fun h => h
theorem worse_row (s : St) (m : Int) (xs : List UInt8) : Worse (s.row m xs).2 s := by
  cases s
  · intro h; simp only [St.bad] at h; simp only [St.row, St.bad, h, Bool.true_or]
  · exact fun h => h
theorem worse_number (s : St) (lo hi v : Int) : Worse (s.number lo hi v).2 s := by
  cases s
  · exact (worse_num _ _ _).trans (worse_must _ _)
  · exact (worse_must _ _).trans (worse_num _ 4 (IntKind.u32.wrap v))
theorem worse_num1 (n : Nat) (k : IntKind) (o : Nat) (x : X) : Worse (num1 n k o x).1 x.1 := worse_num _ _ _
theorem worse_nums2 (n : Nat) (k : IntKind) (a b : Nat) (x : X) : Worse (nums n k [a, b] x).1 x.1 := (worse_num1 n k b _).trans (worse_num1 n k a x)
theorem worse_pTruth (o : Nat) (x : X) : Worse (pTruth o x).1 x.1 := worse_truth _ _
theorem worse_pNumber (lo hi : Int) (o : Nat) (x : X) : Worse (pNumber lo hi o x).1 x.1 := worse_number _ _ _ _
theorem worse_pText (m : Int) (o : Nat) (x : X) : Worse (pText m o x).1 x.1 := worse_row _ _ _
theorem worse_pTime (o : Nat) (x : X) : Worse (pTime o x).1 x.1 := worse_nums2 _ _ _ _ _
theorem worse_pIf {o : Nat} {f : X → X} {x : X} (h : Worse (f x).1 x.1) : Worse (pIf o f x).1 x.1 := by
  unfold pIf
  split
  · exact h
  · exact Worse.refl _
theorem worse_sFix (n : Nat) (v : Int) (s : St) : Worse (sFix n v s) s := (worse_must _ _).trans (worse_num _ _ _)
theorem worse_sFixed (l : List Int) : ∀ s : St, Worse (sFixed l s) s := by
  induction l with
  | nil => intro s; exact Worse.refl _
  | cons v l ih => intro s; exact (ih (sFix 4 v s)).trans (worse_sFix _ _ _)
theorem worse_pFixed (l : List Int) (x : X) : Worse (pFixed l x).1 x.1 := worse_sFixed _ _
theorem worse_pFixed64 (v : Int) (x : X) : Worse (pFixed64 v x).1 x.1 := worse_sFix _ _ _
theorem worse_pMust (b : Bool) (x : X) : Worse (pMust b x).1 x.1 := worse_must _ _
theorem worse_pAttr (o : Nat) (x : X) : Worse (pAttr o x).1 x.1 :=
  (worse_pTime _ _).trans ((worse_pTime _ _).trans ((worse_pTime _ _).trans ((worse_num1 _ _ _ _).trans ((worse_pFixed64 _ _).trans ((worse_pFixed _ _).trans ((worse_nums2 _ _ _ _ _).trans ((worse_nums2 _ _ _ _ _).trans ((worse_pNumber _ _ _ _).trans ((worse_pNumber _ _ _ _).trans ((worse_pMust _ _).trans (worse_pNumber _ _ _ _)))))))))))
theorem worse_pPost (o : Nat) (x : X) : Worse (pPost o x).1 x.1 := (worse_pIf (worse_pAttr _ _)).trans (worse_pTruth _ _)
theorem worse_pHandle (a b : Nat) (x : X) : Worse (pHandle a b x).1 x.1 := (worse_pIf (worse_pText _ _ _)).trans (worse_pTruth _ _)
theorem worse_pEntry (plus : Bool) (o : Nat) (x : X) : Worse (pEntry plus o x).1 x.1 := by
  have h3 : Worse (num1 8 .u64 (o + 2) (pText 255 (o + 1) (num1 8 .u64 o x))).1 x.1 := (worse_num1 _ _ _ _).trans ((worse_pText _ _ _).trans (worse_num1 _ _ _ _))
  unfold pEntry
  cases plus
  · exact h3
  · exact (worse_pHandle _ _ _).trans ((worse_pPost _ _).trans h3)
/-- A text that is typed, through the coder: what is written is no more than it. -/
theorem Ok.text' {lay : List Ty} {n m : Nat} {x : X} (h : Ok lay n x) {o : Nat} {most : Int} (hm : 0 ≤ most ∧ most ≤ 2000000) (ho : lay[o]? = some .str) (hl : (sv (x.2 o)).length ≤ m) : Ok lay (n + (m + 8)) (pText most o x) := by
  refine ⟨(h.text hm ho).ty, Nat.le_trans (St.size_row _ _ _) ?_⟩
  have := h.size; omega
theorem Ok.handle' {lay : List Ty} {n m : Nat} {x : X} (h : Ok lay n x) {a b : Nat} (hab : a ≠ b) (ha : lay[a]? = some .bool) (hb : lay[b]? = some .str) (hl : (sv (x.2 b)).length ≤ m) : Ok lay (n + (m + 12)) (pHandle a b x) := by
  have h1 := h.truth ha
  have h2 : (sv ((pTruth a x).2 b)).length ≤ m := by
    show (sv (upd x.2 a _ b)).length ≤ m
    rw [upd_ne _ _ (Ne.symm hab)]; exact hl
  unfold pHandle pIf
  split
  · exact (h1.text' (by decide) hb h2).mono (by omega)
  · exact h1.mono (by omega)
/-- What a line may take. -/
def EntryV.room (e : EntryV) : Nat := e.name.length + e.handle.length + 200
theorem sub_ePost : ∀ j t, postLay[j]? = some t → eLay[3 + j]? = some t := fun _ _ h => lay_at [.u64, .str, .u64] h

/-- One round: a line, what it becomes. -/
def oneLine (plus : Bool) (s : St) (e : EntryV) : EntryV × St := let r := pEntry plus 0 (s, e.at); (entryOf r.2, r.1)
def St.err : St → Int
  | .wr .. => 0
  | .rd _ _ e _ => e
/-- At most so many rounds from line i on. -/
def lines (plus : Bool) : Nat → Nat → List EntryV → St → List EntryV × St
  | 0, _, es, s => (es, s)
  | n + 1, i, es, s =>
    if s.bad then (es, s) else
    let r := s.truth (decide ((i : Int) < (es.length : Int)))
    if !r.1 || r.2.err != 0 then (es, r.2) else
    let es1 := if i = es.length then es ++ [zeroE] else es
    let s1 := if i = es.length then r.2.must (decide ((i : Int) < 1024)) else r.2
    let q := oneLine plus s1 (es1[i]?.getD zeroE)
    lines plus n (i + 1) (es1.set i q.1) q.2
def linesAll (plus : Bool) (es : List EntryV) (s : St) : List EntryV × St := lines plus (es.length + 1026) 0 es (s.must (decide ((es.length : Int) ≤ 1024)))
theorem lines_bad {plus : Bool} {n i : Nat} {es : List EntryV} {s : St} (h : s.bad = true) : lines plus n i es s = (es, s) := by
  cases n
  · rfl
  · rw [lines, if_pos h]
theorem lines_stop {plus : Bool} {n i : Nat} {es : List EntryV} {s : St} (h : s.bad = false) {t : Bool} {s2 : St} (hr : s.truth (decide ((i : Int) < (es.length : Int))) = (t, s2)) (h2 : (!t || s2.err != 0) = true) : lines plus (n + 1) i es s = (es, s2) := by
  rw [lines, if_neg (by rw [h]; decide), hr]
  simp only
  rw [if_pos h2]
theorem lines_go {plus : Bool} {n i : Nat} {es : List EntryV} {s : St} (h : s.bad = false) {s2 : St} (hr : s.truth (decide ((i : Int) < (es.length : Int))) = (true, s2)) (h2 : s2.err = 0) {es1 : List EntryV} {s1 : St} {e1 : EntryV}
    (h3 : (if i = es.length then es ++ [zeroE] else es) = es1) (h4 : (if i = es.length then s2.must (decide ((i : Int) < 1024)) else s2) = s1) (h5 : es1[i]? = some e1) :
    lines plus (n + 1) i es s = lines plus n (i + 1) (es1.set i (oneLine plus s1 e1).1) (oneLine plus s1 e1).2 := by
  rw [lines, if_neg (by rw [h]; decide), hr]
  simp only
  rw [if_neg (by rw [h2]; decide), h3, h4, h5]
  rfl
/-- What the lines from i on may take. -/
def roomFrom (i : Nat) (es : List EntryV) : Nat := ((es.drop i).map EntryV.room).sum
theorem roomFrom_at {i : Nat} {es : List EntryV} {e : EntryV} (h : es[i]? = some e) : roomFrom i es = e.room + roomFrom (i + 1) es := by
  have hlt := (List.getElem?_eq_some_iff.1 h).1
  have he := (List.getElem?_eq_some_iff.1 h).2
  unfold roomFrom
  rw [List.drop_eq_getElem_cons hlt, he, List.map_cons, List.sum_cons]
theorem roomFrom_set {i : Nat} {es : List EntryV} (e : EntryV) : roomFrom (i + 1) (es.set i e) = roomFrom (i + 1) es := by
  unfold roomFrom
  rw [List.drop_set, if_pos (by omega)]
theorem roomFrom_end {i : Nat} {es : List EntryV} (h : es.length ≤ i) : roomFrom i es = 0 := by
  unfold roomFrom
  rw [List.drop_eq_nil_of_le h]; rfl

end Go.Proofs.Ytanknjpcgceccaa
