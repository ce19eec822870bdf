/- Lines of a directory in memory: the slice's block, one line through the coder, one line more. -/
import Derived.Test.YtanknjpcgceccaaLines
import Derived.ArgAppend
namespace Go.Proofs.Ytanknjpcgceccaa
open Go.RowKit

/-! ### The layout, i lines in -/
def layAt (i : Nat) : List Ty := List.replicate (i * 20) Ty.any ++ (eLay ++ [])
theorem layAt_get {i j : Nat} {t : Ty} (h : eLay[j]? = some t) : (layAt i)[i * 20 + j]? = some t := by
  have := lay_at (List.replicate (i * 20) Ty.any) (b := []) h
  rwa [List.length_replicate] at this
theorem layAt_post {i : Nat} : ∀ j t, postLay[j]? = some t → (layAt i)[i * 20 + 3 + j]? = some t := fun j t h => by
  rw [Nat.add_assoc]; exact layAt_get (sub_ePost j t h)
theorem layAt_ty {i : Nat} {A B : Cells} (h : Typed eLay A) (hs : ∀ j, j < 20 → B (i * 20 + j) = A j) : Typed (layAt i) B := by
  intro j t hj
  unfold layAt at hj
  by_cases hlt : j < i * 20
  · rw [List.getElem?_append_left (by rw [List.length_replicate]; exact hlt), List.getElem?_replicate, if_pos hlt] at hj
    obtain rfl := Option.some.inj hj
    trivial
  · obtain ⟨k, rfl⟩ : ∃ k, j = i * 20 + k := ⟨j - i * 20, by omega⟩
    rw [List.getElem?_append_right (by rw [List.length_replicate]; omega), List.length_replicate, List.append_nil, Nat.add_sub_cancel_left] at hj
    rw [hs k (eLay_lt hj)]
    exact h k t hj
theorem ty_layAt {i : Nat} {B : Cells} (h : Typed (layAt i) B) : Typed eLay (fun j => B (i * 20 + j)) := fun j t hj => h _ t (layAt_get hj)
/-- What a line takes. -/
theorem Ok.entry {i n a b : Nat} {x : X} (h : Ok (layAt i) n x) (plus : Bool) (hn : (sv (x.2 (i * 20 + 1))).length ≤ a) (hh : (sv (x.2 (i * 20 + 19))).length ≤ b) : Ok (layAt i) (n + (a + b + 150)) (pEntry plus (i * 20) x) := by
  have f0 : Fr (i * 20) 18 x x := Fr.refl _ _ _
  have k1 := h.num8 (o := i * 20) (layAt_get (j := 0) rfl)
  have f1 := f0.num1 (j := i * 20) (by omega) (m := 8) (k := .u64)
  have n1 : (sv ((Go.Proofs.Ytanknjpcgceccaa.num1 8 .u64 (i * 20) x).2 (i * 20 + 1))).length ≤ a := by
    show (sv (upd x.2 (i * 20) _ (i * 20 + 1))).length ≤ a
    rw [upd_ne _ _ (by omega)]; exact hn
  have k2 := k1.text' (o := i * 20 + 1) (most := 255) (by decide) (layAt_get (j := 1) rfl) n1
  have f2 := f1.text (j := i * 20 + 1) (by omega) (m := 255)
  have k3 := k2.num8 (o := i * 20 + 2) (layAt_get (j := 2) rfl)
  have f3 := f2.num1 (j := i * 20 + 2) (by omega) (m := 8) (k := .u64)
  unfold pEntry
  cases plus
  · exact k3.mono (by omega)
  · have k4 := k3.post (o := i * 20 + 3) layAt_post
    have f4 := f3.post (o := i * 20 + 3) (by omega)
    have h4 := f4 (i * 20 + 19) (by omega)
    exact (k4.handle' (a := i * 20 + 18) (b := i * 20 + 19) (by omega) (layAt_get (j := 18) rfl) (layAt_get (j := 19) rfl) (by rw [h4]; exact hh)).mono (by omega)

/-! ### The slice -/
structure OwnAt (w : World) (b ec : Nat) (es : List EntryV) (B : Cells) : Prop where
  bl : Blk w b B
  le : es.length ≤ ec
  cap : ec ≤ maxLen
  here : ∀ i e, es[i]? = some e → ∀ j, j < 20 → B (i * 20 + j) = e.at j
  all : ∀ j, j < ec * 20 → (B j).isSome = true
def OwnE (w : World) (eo : Option Addr) (ec : Nat) (es : List EntryV) : Prop := (eo = none ∧ ec = 0 ∧ es = []) ∨ ∃ b B, eo = some ⟨b, 0, none⟩ ∧ OwnAt w b ec es B
theorem OwnE.nil (w : World) : OwnE w none 0 [] := .inl ⟨rfl, rfl, rfl⟩
theorem OwnE.keep {w w' : World} {eo : Option Addr} {ec : Nat} {es : List EntryV} (h : OwnE w eo ec es) {F : Nat → Prop} (hm : Mods F w w') (hF : ∀ k, blk eo k → ¬ F k) : OwnE w' eo ec es := by
  rcases h with h | ⟨b, B, rfl, h⟩
  · exact .inl h
  · exact .inr ⟨b, B, rfl, h.bl.keep hm (hF b rfl), h.le, h.cap, h.here, h.all⟩
theorem OwnE.lt {w : World} {eo : Option Addr} {ec : Nat} {es : List EntryV} (h : OwnE w eo ec es) : ∀ k, blk eo k → k < w.heap.size := by
  rintro k hk
  rcases h with ⟨rfl, _⟩ | ⟨b, B, rfl, h⟩
  · exact hk.elim
  · cases hk; exact h.bl.lt
theorem OwnE.at {w : World} {eo : Option Addr} {ec : Nat} {es : List EntryV} (h : OwnE w eo ec es) {i : Nat} {e : EntryV} (hi : es[i]? = some e) : ∃ b B, eo = some ⟨b, 0, none⟩ ∧ OwnAt w b ec es B := by
  rcases h with ⟨_, _, rfl⟩ | h
  · simp at hi
  · exact h
theorem EntryV.at_some (e : EntryV) {j : Nat} (hj : j < 20) : (e.at j).isSome = true := by
  show (e.cells[j]?).isSome = true
  rw [List.getElem?_eq_getElem (by rw [entry_len]; exact hj)]; rfl

/-- Behind a line's way through the coder. -/
theorem OwnAt.put {w w' : World} {b ec i : Nat} {es : List EntryV} {B : Cells} {s : St} {e : EntryV} {plus : Bool} {n : Nat} (h : OwnAt w b ec es B) (hi : es[i]? = some e) (hb : Blk w' b (pEntry plus (i * 20) (s, B)).2) (hk : Ok (layAt i) n (pEntry plus (i * 20) (s, B))) :
    OwnAt w' b ec (es.set i (oneLine plus s e).1) (pEntry plus (i * 20) (s, B)).2 ∧ (oneLine plus s e).1.ok ∧ (oneLine plus s e).2 = (pEntry plus (i * 20) (s, B)).1 := by
  have hlt : i < es.length := (List.getElem?_eq_some_iff.1 hi).1
  have hsh : Sh (i * 20) 20 (pEntry plus (i * 20) (s, B)) (pEntry plus 0 (s, e.at)) := (show Sh (i * 20) 20 (s, B) (s, e.at) from ⟨rfl, fun j hj => h.here i e hi j hj⟩).entry (Nat.le_refl _) plus
  have hfr : Fr (i * 20) 20 (s, B) (pEntry plus (i * 20) (s, B)) := (Fr.refl _ _ _).entry (Nat.le_refl _) plus
  have hty : Typed eLay (pEntry plus 0 (s, e.at)).2 := fun j t hj => by
    rw [← hsh.cell j (eLay_lt hj)]; exact ty_layAt hk.ty j t hj
  have hcell : ∀ j, j < 20 → (pEntry plus (i * 20) (s, B)).2 (i * 20 + j) = (oneLine plus s e).1.at j := fun j hj => by
    rw [hsh.cell j hj]; exact cells_entryOf hty j hj
  refine ⟨⟨hb, by rw [List.length_set]; exact h.le, h.cap, fun i' e' hi' j hj => ?_, fun j hj => ?_⟩, ok_of hty, hsh.st.symm⟩
  · by_cases hii : i = i'
    · subst hii
      rw [List.getElem?_set_self hlt] at hi'
      obtain rfl := Option.some.inj hi'
      exact hcell j hj
    · rw [List.getElem?_set_ne hii] at hi'
      rw [hfr (i' * 20 + j) (by omega)]
      exact h.here i' e' hi' j hj
  · by_cases hin : j < i * 20 ∨ i * 20 + 20 ≤ j
    · rw [hfr j hin]; exact h.all j hj
    · obtain ⟨k, rfl⟩ : ∃ k, j = i * 20 + k := ⟨j - i * 20, by omega⟩
      rw [hcell k (by omega)]
      exact EntryV.at_some _ (by omega)

/-- Lines one behind the other, as cells. -/
def flatE (es : List EntryV) : List Value := es.flatMap EntryV.cells
theorem flatE_len (es : List EntryV) : (flatE es).length = es.length * 20 := by
  unfold flatE
  induction es with
  | nil => rfl
  | cons e l ih => rw [List.flatMap_cons, List.length_append, ih, entry_len, List.length_cons]; omega
theorem flatE_at (l : List EntryV) : ∀ (k j : Nat) (e : EntryV), l[k]? = some e → j < 20 → (flatE l)[k * 20 + j]? = e.at j := by
  unfold flatE
  induction l with
  | nil => intro k j e hk; simp at hk
  | cons e0 l ih =>
    intro k j e hk hj
    rw [List.flatMap_cons]
    cases k with
    | zero =>
      rw [List.getElem?_append_left (by rw [entry_len]; omega)]
      simp at hk; subst hk
      simp [EntryV.at]
    | succ k =>
      rw [List.getElem?_append_right (by rw [entry_len]; omega), entry_len, show (k + 1) * 20 + j - 20 = k * 20 + j by omega]
      exact ih k j e (by simpa using hk) hj
theorem OwnAt.flat {w : World} {b ec : Nat} {es : List EntryV} {B : Cells} (h : OwnAt w b ec es B) {j : Nat} {u : Value} (hj : (flatE es)[j]? = some u) : B j = some u := by
  have hlt : j < es.length * 20 := by have := (List.getElem?_eq_some_iff.1 hj).1; rwa [flatE_len] at this
  have hk : j / 20 < es.length := by omega
  have h1 := flatE_at es (j / 20) (j % 20) es[j / 20] (List.getElem?_eq_getElem hk) (by omega)
  rw [show j / 20 * 20 + j % 20 = j by omega] at h1
  have h2 := h.here (j / 20) es[j / 20] (List.getElem?_eq_getElem hk) (j % 20) (by omega)
  rw [show j / 20 * 20 + j % 20 = j by omega] at h2
  rw [h2, ← h1, hj]
theorem oneCell_E (es : List EntryV) : ∀ u ∈ flatE es, u.oneCell' = true := by
  intro u hu
  unfold flatE at hu
  rw [List.mem_flatMap] at hu
  obtain ⟨e, _, hu⟩ := hu
  simp [EntryV.cells, PostV.cells, AttrV.cells, TimeV.cells] at hu
  rcases hu with h | h | h | h | h | h | h | h | h | h | h | h | h | h | h | h | h | h | h | h <;> subst h <;> rfl
/-- Out of the kit's word for a row that is owned. -/
theorem OwnE.of_row {w : World} {base : Nat} {e : TypeId} {v' : Value} {es : List EntryV} (h : w.ownsRow base e 20 v' es.length (flatE es)) : ∃ eo ec, v' = .slice eo es.length ec ∧ OwnE w eo ec es ∧ ∀ k, blk eo k → base ≤ k := by
  obtain ⟨hl, ⟨rfl, h0⟩ | ⟨g, c, cur, rfl, hb, hg, h1, h2, h3, h4⟩⟩ := h
  · have : es = [] := List.eq_nil_of_length_eq_zero h0
    subst this
    exact ⟨none, 0, rfl, OwnE.nil _, fun k hk => hk.elim⟩
  · refine ⟨_, _, rfl, .inr ⟨g, fun j => cur[j]?, rfl, ⟨lt_of_heap hg, fun j => cell_of_row _ _ _ _ _ _ hg, fun j => by unfold World.frozen?; rw [hg]; simp⟩, h1, h2, fun i e hi j hj => ?_, fun j hj => ?_⟩, fun k hk => by cases hk; exact hb⟩
    · have hlt : i < es.length := (List.getElem?_eq_some_iff.1 hi).1
      rw [← flatE_at es i j e hi hj, ← h4, List.getElem?_take, if_pos (by omega), Array.getElem?_toList]
    · show (cur[j]?).isSome = true
      rw [Array.getElem?_eq_getElem (by omega)]; rfl
theorem OwnE.sl {w : World} {eo : Option Addr} {ec : Nat} {es : List EntryV} (h : OwnE w eo ec es) : Sl w 20 eo es.length ec (flatE es) := by
  rcases h with ⟨rfl, rfl, rfl⟩ | ⟨b, B, rfl, h⟩
  · exact Sl.nil _ _
  · refine ⟨flatE_len es, h.le, by simp, fun j u hj => ⟨b, 0, rfl, ?_⟩⟩
    rw [Nat.zero_add, h.bl.cell]
    exact h.flat hj

theorem Try.infoE : (Try.prog.info? 105).map (fun i => (i.zero, i.size, i.bytes)) = some (some (.agg zeroE.cells.toArray), 20, 144) := by kernel_rfl

end Go.Proofs.Ytanknjpcgceccaa
