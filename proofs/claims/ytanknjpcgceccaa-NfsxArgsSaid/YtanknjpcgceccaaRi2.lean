/- The reference's In beside a struct: its state, what a step leaves; parts of a struct. -/
import Derived.Test.YtanknjpcgceccaaRi1
import Derived.Test.YtanknjpcgceccaaGen12
namespace Go.Proofs.Ytanknjpcgceccaa
open Go.RowKit

/-! ### Part of a struct -/
/-- y's cells lie in x's from o on, n of them; the states are the same. -/
structure Sh (o n : Nat) (x y : X) : Prop where
  st : x.1 = y.1
  cell : ∀ j, j < n → x.2 (o + j) = y.2 j
section
variable {o n : Nat} {x y : X}
theorem Sh.put (h : Sh o n x y) (j : Nat) (s : St) (v : Value) : Sh o n (s, upd x.2 (o + j) v) (s, upd y.2 j v) := ⟨rfl, fun k hk => by
  by_cases e : k = j
  · subst e; simp only [upd_at]
  · show upd x.2 (o + j) v (o + k) = upd y.2 j v k
    rw [upd_ne _ _ e, upd_ne _ _ (by omega : o + k ≠ o + j)]; exact h.cell k hk⟩
theorem Sh.truth (h : Sh o n x y) {j : Nat} (hj : j < n) : Sh o n (pTruth (o + j) x) (pTruth j y) := by
  unfold pTruth; rw [h.st, h.cell j hj]; exact h.put j _ _
theorem Sh.number (h : Sh o n x y) {j : Nat} (hj : j < n) {lo hi : Int} : Sh o n (pNumber lo hi (o + j) x) (pNumber lo hi j y) := by
  unfold pNumber; rw [h.st, h.cell j hj]; exact h.put j _ _
theorem Sh.num1 (h : Sh o n x y) {j : Nat} (hj : j < n) {m : Nat} {k : IntKind} : Sh o n (num1 m k (o + j) x) (num1 m k j y) := by
  unfold Go.Proofs.Ytanknjpcgceccaa.num1; rw [h.st, h.cell j hj]; exact h.put j _ _
theorem Sh.text (h : Sh o n x y) {j : Nat} (hj : j < n) {m : Int} : Sh o n (pText m (o + j) x) (pText m j y) := by
  unfold pText; rw [h.st, h.cell j hj]; exact h.put j _ _
theorem Sh.time (h : Sh o n x y) {j : Nat} (hj : j + 1 < n) : Sh o n (pTime (o + j) x) (pTime j y) := (h.num1 (m := 4) (k := .u32) (by omega : j < n)).num1 (m := 4) (k := .u32) hj
theorem Sh.pif (h : Sh o n x y) {j : Nat} (hj : j < n) {f g : X → X} (hf : Sh o n (f x) (g y)) : Sh o n (pIf (o + j) f x) (pIf j g y) := by
  unfold pIf; rw [h.cell j hj]; split
  · exact hf
  · exact h
theorem Sh.how (h : Sh o n x y) {v t : Nat} (hv : v < n) (ht : t + 1 < n) : Sh o n (pHow (o + v) (o + t) x) (pHow v t y) := by
  have h1 := h.number (lo := 0) (hi := 2) hv
  unfold pHow
  simp only
  rw [h1.cell v hv]
  split
  · exact h1.time ht
  · have h2 := h1.put t (pNumber 0 2 v y).1 (.int .u32 0)
    have h3 := h2.put (t + 1) (pNumber 0 2 v y).1 (.int .u32 0)
    exact ⟨h1.st, h3.cell⟩
theorem Sh.set (h : Sh o 14 x y) : Sh o 14 (pSet o x) (pSet 0 y) := by
  have h1 := h.truth (j := 0) (by decide)
  have h2 := h1.pif (j := 0) (by decide) (h1.number (j := 4) (by decide) (lo := 0) (hi := 4294967295))
  have h3 := h2.truth (j := 1) (by decide)
  have h4 := h3.pif (j := 1) (by decide) (h3.num1 (j := 5) (by decide) (m := 4) (k := .u32))
  have h5 := h4.truth (j := 2) (by decide)
  have h6 := h5.pif (j := 2) (by decide) (h5.num1 (j := 6) (by decide) (m := 4) (k := .u32))
  have h7 := h6.truth (j := 3) (by decide)
  have h8 := h7.pif (j := 3) (by decide) (h7.num1 (j := 7) (by decide) (m := 8) (k := .u64))
  exact (h8.how (v := 8) (t := 10) (by decide) (by decide)).how (v := 9) (t := 12) (by decide) (by decide)
end
/-- But for n cells from o on x' has x's cells. -/
def Fr (o n : Nat) (x x' : X) : Prop := ∀ j, j < o ∨ o + n ≤ j → x'.2 j = x.2 j
section
variable {o n : Nat} {x y : X}
theorem Fr.refl (o n : Nat) (x : X) : Fr o n x x := fun _ _ => rfl
theorem Fr.put (h : Fr o n x y) {j : Nat} (hj : o ≤ j ∧ j < o + n) (s : St) (v : Value) : Fr o n x (s, upd y.2 j v) := fun k hk => (upd_ne _ _ (by omega)).trans (h k hk)
theorem Fr.truth (h : Fr o n x y) {j : Nat} (hj : o ≤ j ∧ j < o + n) : Fr o n x (pTruth j y) := h.put hj _ _
theorem Fr.number (h : Fr o n x y) {j : Nat} (hj : o ≤ j ∧ j < o + n) {lo hi : Int} : Fr o n x (pNumber lo hi j y) := h.put hj _ _
theorem Fr.num1 (h : Fr o n x y) {j : Nat} (hj : o ≤ j ∧ j < o + n) {m : Nat} {k : IntKind} : Fr o n x (num1 m k j y) := h.put hj _ _
theorem Fr.text (h : Fr o n x y) {j : Nat} (hj : o ≤ j ∧ j < o + n) {m : Int} : Fr o n x (pText m j y) := h.put hj _ _
theorem Fr.time (h : Fr o n x y) {j : Nat} (hj : o ≤ j ∧ j + 1 < o + n) : Fr o n x (pTime j y) := (h.num1 (m := 4) (k := .u32) (j := j) ⟨hj.1, by omega⟩).num1 (m := 4) (k := .u32) (j := j + 1) ⟨by omega, hj.2⟩
theorem Fr.pif (h : Fr o n x y) {j : Nat} {f : X → X} (hf : Fr o n x (f y)) : Fr o n x (pIf j f y) := by
  unfold pIf; split
  · exact hf
  · exact h
theorem Fr.how (h : Fr o n x y) {v t : Nat} (hv : o ≤ v ∧ v < o + n) (ht : o ≤ t ∧ t + 1 < o + n) : Fr o n x (pHow v t y) := by
  have h1 := h.number (lo := 0) (hi := 2) hv
  unfold pHow
  simp only
  split
  · exact h1.time ht
  · exact (h1.put (j := t) ⟨ht.1, by omega⟩ (pNumber 0 2 v y).1 _).put (j := t + 1) ⟨by omega, ht.2⟩ (pNumber 0 2 v y).1 _
theorem Fr.set (h : Fr o 14 x y) : Fr o 14 x (pSet o y) := by
  have h1 := h.truth (j := o) (by omega)
  have h2 := h1.pif (j := o) (h1.number (j := o + 4) (by omega) (lo := 0) (hi := 4294967295))
  have h3 := h2.truth (j := o + 1) (by omega)
  have h4 := h3.pif (j := o + 1) (h3.num1 (j := o + 5) (by omega) (m := 4) (k := .u32))
  have h5 := h4.truth (j := o + 2) (by omega)
  have h6 := h5.pif (j := o + 2) (h5.num1 (j := o + 6) (by omega) (m := 4) (k := .u32))
  have h7 := h6.truth (j := o + 3) (by omega)
  have h8 := h7.pif (j := o + 3) (h7.num1 (j := o + 7) (by omega) (m := 8) (k := .u64))
  exact (h8.how (v := o + 8) (t := o + 10) (by omega) (by omega)).how (v := o + 9) (t := o + 12) (by omega) (by omega)
end
/-- n cells from o on are B's. -/
def put (A B : Cells) (o n : Nat) : Cells := fun j => if o ≤ j ∧ j < o + n then B (j - o) else A j
theorem put_eq {o n : Nat} {x x' y' : X} (h : Sh o n x' y') (hf : Fr o n x x') : x' = (y'.1, put x.2 y'.2 o n) := by
  obtain ⟨s, A⟩ := x'
  have h1 : s = y'.1 := h.st
  subst h1
  congr 1
  funext j
  unfold put
  split
  · rename_i hj
    have := h.cell (j - o) (by omega)
    rw [show o + (j - o) = j by omega] at this
    exact this
  · rename_i hj
    exact hf j (by omega)
/-- Cells in a row. -/
def segC (A : Cells) (n : Nat) : List Value := (List.range n).map fun j => (A j).getD undef
theorem segC_length (A : Cells) (n : Nat) : (segC A n).length = n := by simp [segC]
theorem segC_at {A : Cells} {n j : Nat} {v : Value} (h : (segC A n)[j]? = some v) : j < n ∧ v = (A j).getD undef := by
  have hj : j < n := by have := (List.getElem?_eq_some_iff.1 h).1; rwa [segC_length] at this
  refine ⟨hj, ?_⟩
  simp only [segC, List.getElem?_map, List.getElem?_range hj, Option.map_some, Option.some.injEq] at h
  exact h.symm
theorem Blk.range {w : World} {g : Nat} {A : Cells} (h : Blk w g A) {n : Nat} (hA : ∀ j, j < n → (A j).isSome = true) : w.rangeAt g 0 (segC A n) := fun j v hj => by
  obtain ⟨h1, rfl⟩ := segC_at hj
  rw [Nat.zero_add, h.cell j]
  obtain ⟨u, hu⟩ := Option.isSome_iff_exists.1 (hA j h1)
  rw [hu]; rfl
theorem Blk.there {w : World} {g : Nat} {A : Cells} (h : Blk w g A) {o n : Nat} (hA : ∀ j, j < n → (A (o + j)).isSome = true) : w.there g o n := fun j hj => ⟨by rw [h.cell]; exact hA j hj, h.free _⟩
/-- A row of cells stored. -/
theorem Blk.sets {w : World} {g : Nat} {A B : Cells} {o n : Nat} (h : Blk w g A) (hA : ∀ j, j < n → (A (o + j)).isSome = true) (hB : ∀ j, j < n → (B j).isSome = true) : Blk (w.setCells g o (segC B n)) g (Go.Proofs.Ytanknjpcgceccaa.put A B o n) := by
  have hl := segC_length B n
  have hm : Mods (fun k => k = g) w (w.setCells g o (segC B n)) := Mods.setCells _ rfl
  refine ⟨Nat.lt_of_lt_of_le h.lt hm.size, fun j => ?_, fun j => by rw [World.frozen?_setCells]; exact h.free j⟩
  unfold Go.Proofs.Ytanknjpcgceccaa.put
  split
  · rename_i hj
    have h1 := World.cell?_setCells_in g (segC B n) o w (fun i hi => by rw [h.cell]; exact hA i (by rw [← hl]; exact hi)) (j - o) (by rw [hl]; omega)
    rw [show o + (j - o) = j by omega] at h1
    rw [h1]
    have h2 := (segC_at (List.getElem?_eq_getElem (show j - o < (segC B n).length by rw [hl]; omega))).2
    rw [h2]
    obtain ⟨u, hu⟩ := Option.isSome_iff_exists.1 (hB (j - o) (by omega))
    rw [hu]; rfl
  · rename_i hj
    rw [World.cell?_setCells_out g (segC B n) o w _ (fun _ _ => by rw [hl]; show j < o ∨ o + n ≤ j; omega)]
    exact h.cell j

/-! ### The In beside a struct -/
structure IX (w : World) (c r : Nat) (ao : Option Addr) (cap : Nat) (inp : List UInt8) (g : Nat) (x : X) : Prop where
  it : IAt w c r ao cap inp x.1
  bl : Blk w g x.2
  ap : ¬ FR c r ao inp.length g
def FG (c r g : Nat) : Nat → Prop := fun k => FI c r k ∨ k = g
/-- What a call leaves. -/
def XQ (w : World) (c r : Nat) (ao : Option Addr) (cap : Nat) (inp : List UInt8) (g : Nat) (x : X) (e : Ending) (w' : World) : Prop := e = .returned (.tuple #[]) ∧ Hid (IX w' c r ao cap inp g x) ∧ Hid (Mods (FG c r g) w w')
section
variable {w w1 : World} {c r : Nat} {ao : Option Addr} {cap : Nat} {inp : List UInt8} {g : Nat} {x : X}
theorem IX.gFI (h : IX w c r ao cap inp g x) : ¬ FI c r g := fun e => h.ap (e.imp id .inl)
/-- Behind a call that reads. -/
theorem IX.read (h : IX w c r ao cap inp g x) {s : St} (q1 : IAt w1 c r ao cap inp s) (q2 : Mods (FI c r) w w1) : IX w1 c r ao cap inp g (s, x.2) := ⟨q1, h.bl.keep q2 h.gFI, h.ap⟩
theorem IX.put (h : IX w c r ao cap inp g x) {o : Nat} {u : Value} (ho : x.2 o = some u) (v : Value) : IX (w.setCell ⟨g, o, none⟩ v) c r ao cap inp g (x.1, upd x.2 o v) :=
  ⟨h.it.keep (Mods.setCell (F := fun k => k = g) (a := ⟨g, o, none⟩) rfl v) (fun k hk e => h.ap (e ▸ hk)), h.bl.set ho v, h.ap⟩
theorem IX.puts (h : IX w c r ao cap inp g x) {o n : Nat} {B : Cells} (hA : ∀ j, j < n → (x.2 (o + j)).isSome = true) (hB : ∀ j, j < n → (B j).isSome = true) : IX (w.setCells g o (segC B n)) c r ao cap inp g (x.1, Go.Proofs.Ytanknjpcgceccaa.put x.2 B o n) :=
  ⟨h.it.keep (Mods.setCells (F := fun k => k = g) _ rfl) (fun k hk e => h.ap (e ▸ hk)), h.bl.sets hA hB, h.ap⟩
theorem IX.mput (w : World) (c r g o : Nat) (v : Value) : Mods (FG c r g) w (w.setCell ⟨g, o, none⟩ v) := Mods.setCell (F := FG c r g) (a := ⟨g, o, none⟩) (.inr rfl) v
theorem FI.fg {w w' : World} {c r : Nat} (h : Mods (FI c r) w w') (g : Nat) : Mods (FG c r g) w w' := h.mono fun _ _ h => .inl h
end
theorem Typed.some {lay : List Ty} {A : Cells} (h : Typed lay A) {j : Nat} {t : Ty} (hj : lay[j]? = some t) (ht : t ≠ .any) : ∃ u, A j = .some u := by
  have h1 := h j t hj
  cases t with
  | int => exact ⟨_, h1.iv⟩
  | u32 => exact ⟨_, h1.u32v⟩
  | u64 => exact ⟨_, h1.u64v⟩
  | bool => exact ⟨_, h1.bv⟩
  | str => exact ⟨_, h1.sv.1⟩
  | any => exact absurd rfl ht
  | is v => exact ⟨v, h1⟩

/-- A number of 32 bits is in its range, when it is read. -/
theorem rd_number {w : World} {c r : Nat} {ao : Option Addr} {cap : Nat} {inp : List UInt8} {s : St} (h : IAt w c r ao cap inp s) (u v : Int) : s.number 0 4294967295 u = s.num 4 v := by
  obtain ⟨pos, err, bad, rfl, _⟩ := h
  have := rnum4_lt inp pos err
  have hq : 0 ≤ ((St.rd inp pos err bad).num 4 v).1 ∧ ((St.rd inp pos err bad).num 4 v).1 ≤ 4294967295 := by
    show 0 ≤ ((rnum 4 inp pos err).1 : Int) ∧ ((rnum 4 inp pos err).1 : Int) ≤ 4294967295
    omega
  have e : (St.rd inp pos err bad).number 0 4294967295 u = (((St.rd inp pos err bad).num 4 v).1, ((St.rd inp pos err bad).num 4 v).2.must (decide (0 ≤ ((St.rd inp pos err bad).num 4 v).1 ∧ ((St.rd inp pos err bad).num 4 v).1 ≤ 4294967295))) := rfl
  rw [e, decide_eq_true hq]
  show (((rnum 4 inp pos err).1 : Int), St.rd inp (rnum 4 inp pos err).2.1 (rnum 4 inp pos err).2.2 (bad || !true)) = (((rnum 4 inp pos err).1 : Int), St.rd inp (rnum 4 inp pos err).2.1 (rnum 4 inp pos err).2.2 bad)
  simp only [Bool.not_true, Bool.or_false]
theorem rd_num_range {w : World} {c r : Nat} {ao : Option Addr} {cap : Nat} {inp : List UInt8} {s : St} (h : IAt w c r ao cap inp s) (v : Int) : 0 ≤ (s.num 4 v).1 ∧ (s.num 4 v).1 < 4294967296 := by
  obtain ⟨pos, err, bad, rfl, _⟩ := h
  have := rnum4_lt inp pos err
  simp only [St.num]
  omega

/-! ### 'x.f = r.Get()' -/
/-- The call gives v; with u stored in cell o the In beside its struct is at x'. -/
def XS (w : World) (c r : Nat) (ao : Option Addr) (cap : Nat) (inp : List UInt8) (g o : Nat) (v u : Value) (x' : X) (e : Ending) (w1 : World) : Prop :=
  e = .returned v ∧ Hid (IX (w1.setCell ⟨g, o, none⟩ u) c r ao cap inp g x') ∧ Hid (Mods (FG c r g) w (w1.setCell ⟨g, o, none⟩ u)) ∧ (∃ z, w1.cell? ⟨g, o, none⟩ = some z) ∧ w1.frozen? ⟨g, o, none⟩ = false
section
variable {w : World} {c r : Nat} {ao : Option Addr} {cap : Nat} {inp : List UInt8} {g : Nat} {x : X} {lay : List Ty} {o : Nat}
theorem IX.xs (h : IX w c r ao cap inp g x) {z : Value} (hz : x.2 o = some z) {s : St} {v u : Value} {e : Ending} {w1 : World} (q : IQ w c r ao cap inp v s e w1) : XS w c r ao cap inp g o v u (s, upd x.2 o u) e w1 := by
  obtain ⟨he, q1, q2⟩ := q
  have h1 := h.read q1.out q2.out
  exact ⟨he, h1.put hz u, (FI.fg q2.out g).trans (IX.mput _ _ _ _ _ _), ⟨z, (h1.bl.cell o).trans hz⟩, h1.bl.free o⟩
theorem IX.bool (h : IX w c r ao cap inp g x) (hk : Typed lay x.2) (ho : lay[o]? = some .bool) :
    Calls Try.prog 28 #[.pointer (some ⟨r, 0, none⟩)] w (XS w c r ao cap inp g o (.bool (bv ((pTruth o x).2 o))) (.bool (bv ((pTruth o x).2 o))) (pTruth o x)) := by
  have hv : bv ((pTruth o x).2 o) = (x.1.truth (bv (x.2 o))).1 := by simp only [pTruth, upd_at, bv]
  rw [hv]
  exact (h.it.bool _).mono fun _ _ q => h.xs (hk o _ ho).bv q
theorem IX.u64 (h : IX w c r ao cap inp g x) (hk : Typed lay x.2) (ho : lay[o]? = some .u64) :
    Calls Try.prog 31 #[.pointer (some ⟨r, 0, none⟩)] w (XS w c r ao cap inp g o (.int .u64 (iv ((num1 8 .u64 o x).2 o))) (.int .u64 (iv ((num1 8 .u64 o x).2 o))) (num1 8 .u64 o x)) := by
  have hv : iv ((num1 8 .u64 o x).2 o) = (x.1.num 8 (iv (x.2 o))).1 := by simp only [num1, upd_at, iv]
  rw [hv]
  exact (h.it.u64 _).mono fun _ _ q => h.xs (hk o _ ho).u64v q
theorem IX.r32 (h : IX w c r ao cap inp g x) (hk : Typed lay x.2) (ho : lay[o]? = some .u32) :
    Calls Try.prog 64 #[.pointer (some ⟨r, 0, none⟩)] w (XS w c r ao cap inp g o (.int .u32 (iv ((num1 4 .u32 o x).2 o))) (.int .u32 (iv ((num1 4 .u32 o x).2 o))) (num1 4 .u32 o x)) := by
  have hv : iv ((num1 4 .u32 o x).2 o) = (x.1.num 4 (iv (x.2 o))).1 := by simp only [num1, upd_at, iv]
  rw [hv]
  exact (h.it.u32 _).mono fun _ _ q => h.xs (hk o _ ho).u32v q
theorem IX.u32 (h : IX w c r ao cap inp g x) (hk : Typed lay x.2) (ho : lay[o]? = some .u32) :
    Calls Try.prog 30 #[.pointer (some ⟨c, 0, none⟩)] w (XS w c r ao cap inp g o (.int .u32 (iv ((num1 4 .u32 o x).2 o))) (.int .u32 (iv ((num1 4 .u32 o x).2 o))) (num1 4 .u32 o x)) := by
  have hv : iv ((num1 4 .u32 o x).2 o) = (x.1.num 4 (iv (x.2 o))).1 := by simp only [num1, upd_at, iv]
  rw [hv]
  exact (u32_in c r ao cap inp x.1 (iv (x.2 o)) w h.it).mono fun _ _ q => h.xs (hk o _ ho).u32v q
/-- An int of 32 bits. -/
theorem IX.int (h : IX w c r ao cap inp g x) (hk : Typed lay x.2) (ho : lay[o]? = some .int) :
    Calls Try.prog 30 #[.pointer (some ⟨c, 0, none⟩)] w (XS w c r ao cap inp g o (.int .u32 (iv ((pNumber 0 4294967295 o x).2 o))) (.int .i64 (iv ((pNumber 0 4294967295 o x).2 o))) (pNumber 0 4294967295 o x)) ∧
      0 ≤ iv ((pNumber 0 4294967295 o x).2 o) ∧ iv ((pNumber 0 4294967295 o x).2 o) < 4294967296 := by
  have hn := rd_number h.it (iv (x.2 o)) (iv (x.2 o))
  have hv : iv ((pNumber 0 4294967295 o x).2 o) = (x.1.num 4 (iv (x.2 o))).1 := by simp only [pNumber, upd_at]; rw [hn]; rfl
  have hx : pNumber 0 4294967295 o x = ((x.1.num 4 (iv (x.2 o))).2, upd x.2 o (.int .i64 (x.1.num 4 (iv (x.2 o))).1)) := by simp only [pNumber, hn]
  rw [hv, hx]
  exact ⟨(u32_in c r ao cap inp x.1 (iv (x.2 o)) w h.it).mono fun _ _ q => h.xs (hk o _ ho).iv q, rd_num_range h.it _⟩
theorem IX.upto (h : IX w c r ao cap inp g x) (hk : Typed lay x.2) (ho : lay[o]? = some .int) (lo hi : Int) :
    Calls Try.prog 32 #[.pointer (some ⟨c, 0, none⟩), .int .u32 lo, .int .u32 hi] w (XS w c r ao cap inp g o (.int .i64 (iv ((pNumber lo hi o x).2 o))) (.int .i64 (iv ((pNumber lo hi o x).2 o))) (pNumber lo hi o x)) := by
  have hv : iv ((pNumber lo hi o x).2 o) = (x.1.number lo hi (iv (x.2 o))).1 := by simp only [pNumber, upd_at, iv]
  rw [hv]
  exact (upto_in c r ao cap inp x.1 (iv (x.2 o)) lo hi w h.it).mono fun _ _ q => h.xs (hk o _ ho).iv q
theorem IX.text (h : IX w c r ao cap inp g x) (hk : Typed lay x.2) (ho : lay[o]? = some .str) (most : Int) (hm : -9223372036854775808 ≤ most ∧ most ≤ 9223372036854775807) :
    Calls Try.prog 25 #[.pointer (some ⟨c, 0, none⟩), .int .i64 most] w (XS w c r ao cap inp g o (.string (str (sv ((pText most o x).2 o)))) (.string (str (sv ((pText most o x).2 o)))) (pText most o x)) := by
  have hv : sv ((pText most o x).2 o) = (x.1.row most (sv (x.2 o))).1 := by simp only [pText, upd_at, sv_str]
  rw [hv]
  exact (text_in c r ao cap inp x.1 (sv (x.2 o)) most hm w h.it).mono fun _ _ q => h.xs (hk o _ ho).sv.1 q
end

end Go.Proofs.Ytanknjpcgceccaa
