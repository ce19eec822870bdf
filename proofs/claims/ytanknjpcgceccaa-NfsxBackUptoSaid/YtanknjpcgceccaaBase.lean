/- Words and laws of this seat's walks that name no program: what a call may have changed ('Mods'), a slice that is read ('Sl'), a slice that is owned, append from any source. -/
import Derived.WalkKit
import Derived.WalkSpells
import Derived.WalkLawsBesides
import Derived.Handy
import Derived.Test.YtanknjpcgceccaaRows
namespace Go.Proofs.Ytanknjpcgceccaa
open Go.RowKit

theorem hid {p : Prop} (h : p) : Hid p := h

/-- The world may have new blocks, and of the old blocks those in F may have changed. -/
structure Mods (F : Nat → Prop) (w w' : World) : Prop where
  os : w'.os = w.os
  tape : w'.tape = w.tape
  output : w'.output = w.output
  size : w.heap.size ≤ w'.heap.size
  block : ∀ k, k < w.heap.size → ¬ F k → w'.heap[k]? = w.heap[k]?

theorem Mods.refl (F : Nat → Prop) (w : World) : Mods F w w := ⟨rfl, rfl, rfl, Nat.le_refl _, fun _ _ _ => rfl⟩
theorem Mods.trans {F : Nat → Prop} {a b c : World} (h : Mods F a b) (g : Mods F b c) : Mods F a c :=
  ⟨g.os.trans h.os, g.tape.trans h.tape, g.output.trans h.output, Nat.le_trans h.size g.size, fun k hk hf => (g.block k (Nat.lt_of_lt_of_le hk h.size) hf).trans (h.block k hk hf)⟩
/-- Two steps; the second may change what is new. -/
theorem Mods.step {F G : Nat → Prop} {a b c : World} (h : Mods F a b) (g : Mods G b c) (hG : ∀ k, k < a.heap.size → G k → F k) : Mods F a c :=
  ⟨g.os.trans h.os, g.tape.trans h.tape, g.output.trans h.output, Nat.le_trans h.size g.size, fun k hk hf => (g.block k (Nat.lt_of_lt_of_le hk h.size) (fun hg => hf (hG k hk hg))).trans (h.block k hk hf)⟩
theorem Mods.mono {F G : Nat → Prop} {a b : World} (h : Mods F a b) (hG : ∀ k, k < a.heap.size → F k → G k) : Mods G a b :=
  ⟨h.os, h.tape, h.output, h.size, fun k hk hf => h.block k hk (fun hg => hf (hG k hk hg))⟩
theorem Mods.of_grown {row : Option Nat} {a b : World} (h : a.grownBy b row) : Mods (fun k => some k = row) a b := ⟨h.os, h.tape, h.output, h.size, fun k hk hf => h.block k hk hf⟩
theorem Mods.alloc (F : Nat → Prop) (w : World) (o : Obj) : Mods F w (w.alloc o) := ⟨rfl, rfl, rfl, by simp, fun k hk _ => Below.heap_alloc w o k hk⟩
theorem Mods.drew (F : Nat → Prop) (w : World) : Mods F w w.drew := ⟨rfl, rfl, rfl, Nat.le_refl _, fun _ _ _ => rfl⟩
theorem Mods.setCell {F : Nat → Prop} {w : World} {a : Addr} (h : F a.block) (v : Value) : Mods F w (w.setCell a v) :=
  ⟨rfl, rfl, rfl, by simp, fun k _ hf => Below.heap_setCell w a v k (fun e => hf (e ▸ h))⟩
theorem Mods.below {F : Nat → Prop} {B : Nat} {w w' : World} (h : Mods F w w') (hF : ∀ k, k < B → ¬ F k) (hB : B ≤ w.heap.size) : Below B w w' :=
  ⟨h.os, h.tape, h.output, h.size, fun k hk => h.block k (Nat.lt_of_lt_of_le hk hB) (hF k hk)⟩
theorem Mods.cell {F : Nat → Prop} {w w' : World} (h : Mods F w w') {a : Addr} {v : Value} (hc : w.cell? a = some v) (hf : ¬ F a.block) : w'.cell? a = some v :=
  (World.cell?_of_block (h.block a.block (World.block_lt_of_cell? w a hc) hf)).trans hc
theorem lt_of_heap {w : World} {k : Nat} {o : Obj} (h : w.heap[k]? = some o) : k < w.heap.size := (Array.getElem?_eq_some_iff.1 h).1
theorem Mods.obj {F : Nat → Prop} {w w' : World} (h : Mods F w w') {k : Nat} {o : Obj} (hc : w.heap[k]? = some o) (hf : ¬ F k) : w'.heap[k]? = some o :=
  (h.block k (lt_of_heap hc) hf).trans hc

/-- The block of an address. -/
def blk : Option Addr → Nat → Prop
  | some a, k => a.block = k
  | none, _ => False

/-- The block of a slice that is read: none where it is empty (of an empty slice's address nothing is known). -/
def rb (ao : Option Addr) (n : Nat) (k : Nat) : Prop := n ≠ 0 ∧ blk ao k

/-- A slice value that reads the cells xs (n elements of 'size' cells each), wherever they lie. -/
def Sl (w : World) (size : Nat) (ao : Option Addr) (n cap : Nat) (xs : List Value) : Prop :=
  xs.length = n * size ∧ n ≤ cap ∧ (ao = none → cap = 0) ∧
  ∀ j u, xs[j]? = some u → ∃ b o, ao = some ⟨b, o, none⟩ ∧ w.cell? ⟨b, o + j, none⟩ = some u

theorem Sl.nil (w : World) (size : Nat) : Sl w size none 0 0 [] := ⟨by simp, Nat.le_refl _, fun _ => rfl, by simp⟩
theorem Sl.keep {w w' : World} {size : Nat} {ao : Option Addr} {n cap : Nat} {xs : List Value} (h : Sl w size ao n cap xs) {F : Nat → Prop} (hm : Mods F w w') (hF : ∀ k, rb ao n k → ¬ F k) : Sl w' size ao n cap xs := by
  refine ⟨h.1, h.2.1, h.2.2.1, fun j u hu => ?_⟩
  obtain ⟨b, o, rfl, hc⟩ := h.2.2.2 j u hu
  refine ⟨b, o, rfl, hm.cell hc (hF b ⟨?_, rfl⟩)⟩
  rintro rfl
  have h0 : xs = [] := List.eq_nil_of_length_eq_zero (by simpa using h.1)
  rw [h0] at hu
  simp at hu
theorem Sl.at {w : World} {size : Nat} {ao : Option Addr} {n cap : Nat} {xs : List Value} (h : Sl w size ao n cap xs) {j : Nat} (hj : j < xs.length) :
    ∃ b o, ao = some ⟨b, o, none⟩ ∧ w.cell? ⟨b, o + j, none⟩ = some xs[j] := h.2.2.2 j xs[j] (by simp [hj])
theorem Sl.form {w : World} {size : Nat} {ao : Option Addr} {n cap : Nat} {xs : List Value} (h : Sl w size ao n cap xs) (hx : xs ≠ []) :
    ∃ b o, ao = some ⟨b, o, none⟩ ∧ ∀ j u, xs[j]? = some u → w.cell? ⟨b, o + j, none⟩ = some u := by
  obtain ⟨b, o, rfl, _⟩ := h.at (j := 0) (by cases xs <;> simp_all)
  refine ⟨b, o, rfl, fun j u hu => ?_⟩
  obtain ⟨b', o', he, hc⟩ := h.2.2.2 j u hu
  simp only [Option.some.injEq, Addr.mk.injEq, and_true] at he
  obtain ⟨rfl, rfl⟩ := he
  exact hc

/-- Owned: kit's word, with no least block. -/
def Own (w : World) (e : TypeId) (size : Nat) (ao : Option Addr) (n cap : Nat) (xs : List Value) : Prop := w.ownsRow 0 e size (.slice ao n cap) n xs

theorem Own.nil (w : World) (e : TypeId) (size : Nat) : Own w e size none 0 0 [] := World.ownsRow_nil w 0 e size
theorem Own.cases {w : World} {e : TypeId} {size : Nat} {ao : Option Addr} {n cap : Nat} {xs : List Value} (h : Own w e size ao n cap xs) :
    (ao = none ∧ n = 0 ∧ cap = 0 ∧ xs = []) ∨
    ∃ g cur, ao = some ⟨g, 0, none⟩ ∧ w.heap[g]? = some (.cells cur e (0, 0)) ∧ n ≤ cap ∧ cap ≤ maxLen ∧ cur.size = cap * size ∧ cur.toList.take (n * size) = xs := by
  obtain ⟨hl, ⟨hv, h0⟩ | ⟨g, c, cur, hv, _, hg, h1, h2, h3, h4⟩⟩ := h
  · simp only [Value.slice.injEq] at hv
    obtain ⟨rfl, rfl, rfl⟩ := hv
    exact .inl ⟨rfl, rfl, rfl, List.eq_nil_of_length_eq_zero (by simpa using hl)⟩
  · simp only [Value.slice.injEq] at hv
    obtain ⟨rfl, _, rfl⟩ := hv
    exact .inr ⟨g, cur, rfl, hg, h1, h2, h3, h4⟩
theorem Own.sl {w : World} {e : TypeId} {size : Nat} {ao : Option Addr} {n cap : Nat} {xs : List Value} (h : Own w e size ao n cap xs) : Sl w size ao n cap xs := by
  refine ⟨h.1, ?_, ?_, ?_⟩
  · rcases h.cases with ⟨_, rfl, rfl, _⟩ | ⟨g, cur, _, _, h1, _⟩
    · exact Nat.le_refl _
    · exact h1
  · rintro rfl
    rcases h.cases with ⟨_, _, h, _⟩ | ⟨g, cur, h, _⟩
    · exact h
    · cases h
  · intro j u hu
    rcases h.cases with ⟨_, _, _, rfl⟩ | ⟨g, cur, rfl, hg, h1, h2, h3, h4⟩
    · simp at hu
    · refine ⟨g, 0, rfl, ?_⟩
      rw [Nat.zero_add, cell_of_row w g j cur e (0, 0) hg]
      rw [← h4, List.getElem?_take] at hu
      split at hu
      · simpa using hu
      · cases hu
theorem Own.lt {w : World} {e : TypeId} {size : Nat} {ao : Option Addr} {n cap : Nat} {xs : List Value} (h : Own w e size ao n cap xs) : ∀ k, blk ao k → k < w.heap.size := by
  intro k hk
  rcases h.cases with ⟨rfl, _⟩ | ⟨g, cur, rfl, hg, _⟩
  · exact hk.elim
  · cases hk; exact lt_of_heap hg
theorem Own.keep {w w' : World} {e : TypeId} {size : Nat} {ao : Option Addr} {n cap : Nat} {xs : List Value} (h : Own w e size ao n cap xs) {F : Nat → Prop} (hm : Mods F w w') (hF : ∀ k, blk ao k → ¬ F k) : Own w' e size ao n cap xs := by
  refine ⟨h.1, ?_⟩
  rcases h.cases with ⟨rfl, rfl, rfl, rfl⟩ | ⟨g, cur, rfl, hg, r⟩
  · exact .inl ⟨rfl, rfl⟩
  · exact .inr ⟨g, cap, cur, rfl, Nat.zero_le _, hm.obj hg (hF g rfl), r⟩

/-- One slice's way: from (w, ao) to (w', ao'): of the old blocks its own alone may have changed; where it lies now is where it lay, or new. -/
structure Grew (w : World) (ao : Option Addr) (w' : World) (ao' : Option Addr) : Prop where
  mods : Mods (blk ao) w w'
  fresh : ∀ k, blk ao' k → blk ao k ∨ w.heap.size ≤ k
theorem Grew.refl (w : World) (ao : Option Addr) : Grew w ao w ao := ⟨Mods.refl _ _, fun _ h => .inl h⟩
theorem Grew.trans {w w1 w2 : World} {a a1 a2 : Option Addr} (h : Grew w a w1 a1) (g : Grew w1 a1 w2 a2) : Grew w a w2 a2 := by
  refine ⟨h.mods.step g.mods fun k hk hb => ?_, fun k hk => ?_⟩
  · rcases h.fresh k hb with h | h
    · exact h
    · omega
  · rcases g.fresh k hk with h1 | h1
    · exact h.fresh k h1
    · exact .inr (Nat.le_trans h.mods.size h1)
theorem Grew.alloc {w w1 : World} {a a1 : Option Addr} (h : Grew w a w1 a1) (o : Obj) : Grew w a (w1.alloc o) a1 :=
  ⟨h.mods.trans (Mods.alloc _ _ _), h.fresh⟩
theorem Grew.drew {w w1 : World} {a a1 : Option Addr} (h : Grew w a w1 a1) : Grew w a w1.drew a1 :=
  ⟨h.mods.trans (Mods.drew _ _), h.fresh⟩

/-- append, from any source, onto an owned slice. -/
theorem wpList_app {P : Program} (w : World) {ops : Array Oper} {rest : List Oper} {o : Oper} {a : Act} {Q : Exit → Act → World → Prop} (hgd : o.guard = none) (s x : Operand) (t : TypeId)
    (ho : o.op = .call { callee := .builtin .append, args := #[s, x], argTypes := #[t, t] })
    (e : TypeId) (i : TypeInfo) (z : Value) (size bytes : Nat) (ht : P.underlying t = some (.slice e)) (hi : P.info? e = some i) (hz : i.zero = some z)
    (hsize : i.size = size) (hby : i.bytes = bytes) (hzs : z.cells.size = size) (hsz : 0 < size)
    (ao : Option Addr) (n cap : Nat) (xs : List Value) (hs : a.eval s = .slice ao n cap) (hown : Own w e size ao n cap xs)
    (ad : Option Addr) (m c : Nat) (news : List Value) (hx : a.eval x = .slice ad m c) (hsl : Sl w size ad m c news) (h1 : ∀ u ∈ news, u.oneCell' = true)
    (hbig : n + m ≤ 1000000000) (hbytes : bytes ≤ 10000)
    (h : ∀ ao' cap' w', Own w' e size ao' (n + m) cap' (xs ++ news) → Mods (blk ao) w w' → (∀ k, blk ao' k → blk ao k ∨ w.heap.size ≤ k) → wpList P ops Q rest (a.put o.dst (.slice ao' (n + m) cap')) w') : wpList P ops Q (o :: rest) a w := by
  have h63 : n + m ≤ maxLen := by simp only [maxLen]; omega
  have hbb : (n + m) * bytes ≤ 140737488355328 := by
    refine Nat.le_trans (Nat.mul_le_mul hbig hbytes) (by decide)
  have hrow : ∀ w', w.grownBy w' (Value.ownBlock (.slice ao n cap)) → Mods (blk ao) w w' := by
    intro w' hg
    refine (Mods.of_grown hg).mono fun k _ hk => ?_
    rcases ao with _ | a0
    · simp [Value.ownBlock] at hk
    · simp [Value.ownBlock] at hk; exact hk.symm
  have hnone : ∀ w', w.grownBy w' none → Mods (blk ao) w w' := fun w' hg => (Mods.of_grown hg).mono fun k _ hk => by cases hk
  have hform : ∀ (v' : Value) (w' : World), w'.ownsRow 0 e size v' (n + m) (xs ++ news) → ∃ ao' cap', v' = .slice ao' (n + m) cap' := by
    rintro v' w' ⟨_, ⟨rfl, h0⟩ | ⟨g, c, cur, rfl, _⟩⟩
    · exact ⟨none, 0, by rw [h0]⟩
    · exact ⟨_, _, rfl⟩
  refine wpList_plain hgd fun K hK => ?_
  unfold Oper.wp
  cases ad with
  | none =>
    have hc : c = 0 := hsl.2.2.1 rfl
    subst hc
    have hm : m = 0 := Nat.le_zero.1 hsl.2.1
    subst hm
    have hn : news = [] := List.eq_nil_of_length_eq_zero (by simpa using hsl.1)
    subst hn
    have hrun := run_append_owned_none (P := P) (w := w) 0 t o.type e i size ht hi _ n xs hown
    simp [execOp, ho, resolve, invoke, builtin, hs, hx, hrun, Result.andThen]
    refine hK _ _ ?_
    simpa using h ao cap w (by simpa using hown) (Mods.refl _ _) (fun k hk => .inl hk)
  | some ad =>
    have hnews : ∀ j u, news[j]? = some u → w.cell? (ad.add j) = some u := by
      intro j u hu
      obtain ⟨b, o, he, hc⟩ := hsl.2.2.2 j u hu
      simp only [Option.some.injEq] at he
      subst he
      have hplain : (⟨b, o, none⟩ : Addr).add j = ⟨b, o + j, none⟩ := by unfold Addr.add; split <;> simp_all
      rw [hplain]; exact hc
    rcases hown.cases with ⟨rfl, rfl, rfl, rfl⟩ | ⟨g, cur, rfl, hg, h1', h2', h3', h4'⟩
    · obtain ⟨v', w', hrun, r1, r2, r3⟩ := run_append_own (P := P) w w.heap.size t o.type e i z size bytes ht hi hz hsize hby hzs hsz (.slice none 0 0) 0 [] (World.ownsRow_nil w _ e size) ad m c news hsl.1 hnews h1 h63 hbb (Nat.le_refl _)
      have r1' : w'.ownsRow 0 e size v' (0 + m) ([] ++ news) := ⟨r1.1, r1.2.imp id fun ⟨g, c, cur, hv, _, r⟩ => ⟨g, c, cur, hv, Nat.zero_le _, r⟩⟩
      obtain ⟨ao', cap', rfl⟩ := hform v' w' r1'
      simp [execOp, ho, resolve, invoke, builtin, hs, hx, hrun, Result.andThen]
      have hh := h ao' cap' w' r1' (hrow _ r2) (fun k hk => by
        rcases ao' with _ | a'
        · exact hk.elim
        · exact .inr ((r1.lt k (by simp [Value.ownBlock]; exact hk)).1))
      simp only [Nat.zero_add] at hh
      exact hK _ _ hh
    · by_cases hr : n + m ≤ cap
      · have hfit : n * i.size + news.length ≤ cur.size := by rw [hsl.1, h3', hsize, ← Nat.add_mul]; exact Nat.mul_le_mul_right _ hr
        obtain ⟨v', w', hrun, r1, r2, _⟩ := run_append_own (P := P) w 0 t o.type e i z size bytes ht hi hz hsize hby hzs hsz _ n xs hown ad m c news hsl.1 hnews h1 h63 hbb (Nat.zero_le _)
        have hrun2 := run_append_room (P := P) w t o.type e i ht hi g n cap cur hg ad m c news (by rw [hsize]; exact hsl.1) hnews h1 hr hfit
        rw [hrun] at hrun2
        simp only [Result.ok.injEq] at hrun2
        obtain ⟨rfl, _⟩ := hrun2
        simp [execOp, ho, resolve, invoke, builtin, hs, hx, hrun, Result.andThen]
        exact hK _ _ (h _ cap w' r1 (hrow _ r2) fun k hk => .inl hk)
      · have holds : ∀ j u, xs[j]? = some u → w.cell? ((⟨g, 0, none⟩ : Addr).add j) = some u := World.ownsRow.cells (g := g) hown rfl
        obtain ⟨v', w', hrun, r1, r2⟩ := run_append_arg_grows (P := P) w t o.type e i z size bytes ht hi hz hsize hby hzs hsz ⟨g, 0, none⟩ n cap xs hown.1 holds ad m c news hsl.1 hnews (by omega) h63 hbb
        have r1' : w'.ownsRow 0 e size v' (n + m) (xs ++ news) := ⟨r1.1, r1.2.imp id fun ⟨g, c, cur, hv, _, r⟩ => ⟨g, c, cur, hv, Nat.zero_le _, r⟩⟩
        obtain ⟨ao', cap', rfl⟩ := hform v' w' r1'
        simp [execOp, ho, resolve, invoke, builtin, hs, hx, hrun, Result.andThen]
        refine hK _ _ (h ao' cap' w' r1' (hnone _ r2) fun k hk => ?_)
        rcases ao' with _ | a'
        · exact hk.elim
        · exact .inr ((r1.lt k (by simp [Value.ownBlock]; exact hk)).1)

/-- The one element that 'append(out, v)' lays in a new block. -/
theorem Sl.one (w : World) (v : Value) (e : TypeId) : Sl (w.alloc (.cells #[v] e)) 1 (some ⟨w.heap.size, 0, none⟩) 1 1 [v] := by
  refine ⟨rfl, Nat.le_refl _, by simp, fun j u hu => ?_⟩
  match j, hu with
  | 0, hu => simp at hu; subst hu; exact ⟨_, _, rfl, by simp⟩
theorem Sl.one' (w : World) (v : Value) (e : TypeId) {b : Nat} (hb : b = w.heap.size) : Sl (w.alloc (.cells #[v] e)) 1 (some ⟨b, 0, none⟩) 1 1 [v] := hb ▸ Sl.one w v e
theorem cell_one (w : World) (v : Value) (e : TypeId) : (w.alloc (.cells #[v] e)).cell? ⟨w.heap.size, 0, none⟩ = some v := by simp
theorem Own.alloc {w : World} {e : TypeId} {size : Nat} {ao : Option Addr} {n cap : Nat} {xs : List Value} (h : Own w e size ao n cap xs) (o : Obj) : Own (w.alloc o) e size ao n cap xs :=
  h.keep (Mods.alloc (fun _ => False) w o) fun _ _ h => h
theorem Sl.alloc {w : World} {size : Nat} {ao : Option Addr} {n cap : Nat} {xs : List Value} (h : Sl w size ao n cap xs) (o : Obj) : Sl (w.alloc o) size ao n cap xs :=
  h.keep (Mods.alloc (fun _ => False) w o) fun _ _ h => h

/-! ### Bytes -/
def B (u : UInt8) : Value := .int .u8 (u.toNat : Int)
def u8 (x : Int) : UInt8 := UInt8.ofNat (x % 256).toNat
theorem B_u8 (x : Int) : B (u8 x) = .int .u8 (IntKind.u8.wrap x) := by
  unfold B u8
  rw [IntKind.wrap_u8]
  congr 1
  simp
  omega
theorem oneCell_B (l : List UInt8) : ∀ u ∈ l.map B, u.oneCell' = true := by
  intro u hu
  simp only [List.mem_map] at hu
  obtain ⟨x, _, rfl⟩ := hu
  rfl

theorem u8_mod (x : Int) : u8 (x % 256) = u8 x := by unfold u8; rw [Int.emod_emod_of_dvd _ (by decide)]
theorem B_of {y : Int} (h : 0 ≤ y ∧ y < 256) : Value.int .u8 y = B (u8 y) := by
  rw [B_u8, IntWalk.u8_in y ⟨h.1, by omega⟩]

theorem Try.info5 : (Try.prog.info? 5).map (fun i => (i.zero, i.size, i.bytes)) = some (some (.int .u8 0), 1, 1) := by kernel_rfl

/-- An owned slice of bytes. -/
def OwnB (w : World) (ao : Option Addr) (cap : Nat) (bs : List UInt8) : Prop := Own w 5 1 ao bs.length cap (bs.map B)
/-- A slice of bytes that is read. -/
def SlB (w : World) (ao : Option Addr) (cap : Nat) (bs : List UInt8) : Prop := Sl w 1 ao bs.length cap (bs.map B)
theorem OwnB.nil (w : World) : OwnB w none 0 [] := Own.nil w _ _
theorem OwnB.empty (w : World) : OwnB (w.alloc (.cells #[] 5)) (some ⟨w.heap.size, 0, none⟩) 0 [] :=
  ⟨rfl, .inr ⟨w.heap.size, 0, #[], rfl, Nat.zero_le _, heap_alloc_new w _, Nat.le_refl _, by decide, rfl, rfl⟩⟩
theorem SlB.nil (w : World) : SlB w none 0 [] := Sl.nil w _
theorem OwnB.sl {w : World} {ao : Option Addr} {cap : Nat} {bs : List UInt8} (h : OwnB w ao cap bs) : SlB w ao cap bs := Own.sl h
theorem OwnB.lt {w : World} {ao : Option Addr} {cap : Nat} {bs : List UInt8} (h : OwnB w ao cap bs) : ∀ k, blk ao k → k < w.heap.size := Own.lt h
theorem OwnB.keep {w w' : World} {ao : Option Addr} {cap : Nat} {bs : List UInt8} (h : OwnB w ao cap bs) {F : Nat → Prop} (hm : Mods F w w') (hF : ∀ k, blk ao k → ¬ F k) : OwnB w' ao cap bs := Own.keep h hm hF
theorem SlB.keep {w w' : World} {ao : Option Addr} {cap : Nat} {bs : List UInt8} (h : SlB w ao cap bs) {F : Nat → Prop} (hm : Mods F w w') (hF : ∀ k, rb ao bs.length k → ¬ F k) : SlB w' ao cap bs := Sl.keep h hm hF
theorem OwnB.alloc {w : World} {ao : Option Addr} {cap : Nat} {bs : List UInt8} (h : OwnB w ao cap bs) (o : Obj) : OwnB (w.alloc o) ao cap bs := Own.alloc h o
theorem SlB.alloc {w : World} {ao : Option Addr} {cap : Nat} {bs : List UInt8} (h : SlB w ao cap bs) (o : Obj) : SlB (w.alloc o) ao cap bs := Sl.alloc h o
theorem SlB.at {w : World} {ao : Option Addr} {cap : Nat} {bs : List UInt8} (h : SlB w ao cap bs) {j : Nat} (hj : j < bs.length) :
    ∃ b o, ao = some ⟨b, o, none⟩ ∧ w.cell? ⟨b, o + j, none⟩ = some (.int .u8 ((bs[j]).toNat : Int)) := by
  obtain ⟨b, o, h1, h2⟩ := Sl.at h (j := j) (by simpa using hj)
  exact ⟨b, o, h1, by simpa [B] using h2⟩

theorem wpList_appB (w : World) {ops : Array Oper} {rest : List Oper} {o : Oper} {a : Act} {Q : Exit → Act → World → Prop} (hgd : o.guard = none) (s x : Operand)
    (ho : o.op = .call { callee := .builtin .append, args := #[s, x], argTypes := #[22, 22] })
    (ao : Option Addr) (n cap : Nat) (cs : List UInt8) (hs : a.eval s = .slice ao n cap) (hn : n = cs.length) (hown : OwnB w ao cap cs)
    (ad : Option Addr) (m c : Nat) (ds : List UInt8) (hx : a.eval x = .slice ad m c) (hmm : m = ds.length) (hsl : SlB w ad c ds)
    (hbig : cs.length + ds.length ≤ 1000000000)
    (h : ∀ ao' cap' cs' w', Hid (cs' = cs ++ ds) → OwnB w' ao' cap' cs' → Grew w ao w' ao' →
      wpList Try.prog ops Q rest (a.put o.dst (.slice ao' cs'.length cap')) w') : wpList Try.prog ops Q (o :: rest) a w := by
  subst hn hmm
  obtain ⟨i0, hi, hz0, hz1, hz2⟩ := info_parts Try.info5
  refine wpList_app w hgd s x _ ho 5 i0 _ 1 1 Try.underlying22 hi hz0 hz1 hz2 rfl (by decide) ao _ cap _ hs hown ad _ c _ hx hsl (oneCell_B ds) hbig (by decide) ?_
  intro ao' cap' w' h1 h2 h3
  rw [← List.length_append] at h1 ⊢
  rw [← List.map_append] at h1
  exact h ao' cap' _ w' rfl h1 ⟨h2, h3⟩

/-- append(out, y): one byte, laid in a new block ahead. -/
theorem wpList_appB1 (w : World) {ops : Array Oper} {rest : List Oper} {o : Oper} {a : Act} {Q : Exit → Act → World → Prop} (hgd : o.guard = none) (s x : Operand)
    (ho : o.op = .call { callee := .builtin .append, args := #[s, x], argTypes := #[22, 22] })
    (ao : Option Addr) (n cap : Nat) (cs : List UInt8) (hs : a.eval s = .slice ao n cap) (hn : n = cs.length) (hown : OwnB w ao cap cs)
    (b : Nat) (y : Int) (hx : a.eval x = .slice (some ⟨b, 0, none⟩) 1 1) (hc : w.cell? ⟨b, 0, none⟩ = some (.int .u8 y)) (hy : 0 ≤ y ∧ y < 256)
    (hbig : cs.length ≤ 100000000)
    (h : ∀ ao' cap' cs' w', Hid (cs' = cs ++ [u8 y]) → OwnB w' ao' cap' cs' → Grew w ao w' ao' →
      wpList Try.prog ops Q rest (a.put o.dst (.slice ao' cs'.length cap')) w') : wpList Try.prog ops Q (o :: rest) a w := by
  refine wpList_appB w hgd s x ho ao n cap cs hs hn hown (some ⟨b, 0, none⟩) 1 1 [u8 y] hx rfl ?_ (by simp; omega) h
  refine ⟨rfl, Nat.le_refl _, by simp, fun j u hu => ?_⟩
  match j, hu with
  | 0, hu => simp at hu; subst hu; exact ⟨_, _, rfl, by rw [← B_of hy]; exact hc⟩

/-! ### append(s, make([]byte, k)...) -/
theorem zeroCells_one (z : Value) (n : Nat) : (Builtin.zeroCells #[z] n) = (List.replicate n z).toArray := by
  apply Array.ext'
  apply List.ext_getElem?
  intro j
  by_cases hj : j < n
  · simp [Builtin.zeroCells, hj, Nat.mod_one]
  · simp [Builtin.zeroCells, hj]

theorem run_app_zeros {P : Program} (w : World) (t tn ty e : TypeId) (i : TypeInfo) (z : Value) (kq kn : IntKind) (ht : P.underlying t = some (.slice e)) (htn : P.underlying tn = some (.int kn)) (hi : P.info? e = some i) (hz : i.zero = some z)
    (hs1 : i.size = 1) (hb1 : i.bytes = 1) (hzc : z.cells = #[z]) (hz1 : z.oneCell' = true)
    (ao : Option Addr) (n cap : Nat) (xs : List Value) (hown : Own w e 1 ao n cap xs) (k : Nat) (hbig : n + k ≤ 1000000000) :
    ∃ ao' cap' w', (Builtin.append_ #[t, tn] ty #[.slice ao n cap, .int kq k]).run P w = .ok (.slice ao' (n + k) cap') w' ∧
      Own w' e 1 ao' (n + k) cap' (xs ++ List.replicate k z) ∧ Grew w ao w' ao' := by
  have hw : IntKind.i64.wrap (k : Int) = k := by rw [IntKind.wrap_i64]; omega
  have hw0 : IntKind.i64.wrap 0 = 0 := by rw [IntKind.wrap_i64]; omega
  have hneg : ¬ ((k : Int) < 0) := by omega
  have hk48 : ¬ (281474976710656 < (k : Int)) := by omega
  have hl := hown.1
  by_cases hr : n + k ≤ cap
  · rcases hown.cases with ⟨rfl, rfl, rfl, rfl⟩ | ⟨g, cur, rfl, hg, h1', h2', h3', h4'⟩
    · have hk : k = 0 := by omega
      subst hk
      refine ⟨none, 0, w, ?_, by simpa using hown, Grew.refl _ _⟩
      simp [Builtin.append_, run_underlying ht, run_underlying htn, sizeOf, typeInfo, hi, asInt, asIntOf, hw0]
    · by_cases hk0 : k = 0
      · subst hk0
        refine ⟨some ⟨g, 0, none⟩, cap, w, ?_, by simpa using hown, Grew.refl _ _⟩
        simp [Builtin.append_, run_underlying ht, run_underlying htn, sizeOf, typeInfo, hi, asInt, asIntOf, hw0, h1', storeCells]
      · have hfit : n * 1 + (List.replicate k z).length ≤ cur.size := by simp; omega
        have hst := run_storeCells_at P g (n * 1) e (List.replicate k z) 0 cur w hg (by simpa using hfit) (by intro x hx; rw [List.eq_of_mem_replicate hx]; exact hz1)
        simp only [Nat.add_zero, Nat.mul_one] at hst
        refine ⟨some ⟨g, 0, none⟩, cap, w.setRow g (cur.toList.take n ++ List.replicate k z ++ cur.toList.drop (n + (List.replicate k z).length)).toArray, ?_, ⟨by simp [hl], .inr ⟨g, cap, _, rfl, Nat.zero_le _, setRow_heap w g cur _ e _ hg, hr, h2', ?_, ?_⟩⟩, ⟨rfl, rfl, rfl, by simp, fun q _ hq => setRow_other w g q _ (fun e => hq e.symm)⟩, fun q hq => .inl hq⟩
        · simp [Builtin.append_, run_underlying ht, run_underlying htn, sizeOf, typeInfo, zeroValue, hi, hz, asInt, asIntOf, hw, hneg, hs1, hb1, hk48, hr, hk0, zeroCells_one, hzc, Addr.add_lit]
          simp at hst
          simp [hst]
        · simp only [List.size_toArray, List.length_append, List.length_take, List.length_drop, Array.length_toList, List.length_replicate]
          omega
        · simp only [Nat.mul_one] at h4'
          rw [h4', Nat.mul_one]
          have hl2 : (xs ++ List.replicate k z).length = n + k := by simp [hl]
          rw [← hl2]
          exact List.take_left
  · have hge := grownCap_ge w (n + k) cap e
    have hcm : grownCap w (n + k) cap e ≤ maxLen := grownCap_le_maxLen w (n + k) cap e (by simp only [maxLen]; omega)
    have hk0 : k ≠ 0 := by
      intro h
      rcases hown.cases with ⟨_, rfl, rfl, _⟩ | ⟨g, cur, _, _, h1', _⟩ <;> omega
    have h63' : ¬ (9223372036854775807 < ((n : Int) + (k : Int))) := by omega
    have hfit := growslice_fits (need := n + k) (old := cap) (bytes := 1) (by omega) (by omega)
    have h48' : ¬ (281474976710656 < Builtin.nextslicecap (n + k) cap) := by omega
    have hfo : (Builtin.firstCells 1 n (.slice ao n cap)).run P w.drew = .ok xs.toArray w.drew := by
      rcases hown.cases with ⟨rfl, rfl, rfl, rfl⟩ | ⟨g, cur, rfl, hg, h1', h2', h3', h4'⟩
      · simp [Builtin.firstCells]
      · have holds : ∀ j u, xs[j]? = some u → w.cell? ((⟨g, 0, none⟩ : Addr).add j) = some u := World.ownsRow.cells (g := g) hown rfl
        exact run_firstCells_some (P := P) w.drew 1 n ⟨g, 0, none⟩ n cap xs (by simpa using hl) (by simpa using holds)
    refine ⟨some ⟨w.heap.size, 0, none⟩, grownCap w (n + k) cap e, w.drew.alloc (.cells (xs.toArray ++ (List.replicate k z).toArray ++ Builtin.zeroCells z.cells (grownCap w (n + k) cap e - (n + k))) e), ?_, ⟨by simp [hl], .inr ⟨w.heap.size, _, _, rfl, Nat.zero_le _, heap_alloc_new w.drew _, hge, hcm, ?_, ?_⟩⟩, ⟨rfl, rfl, rfl, by simp, fun q hq _ => Below.heap_alloc w.drew _ q hq⟩, fun q hq => .inr (by cases hq; exact Nat.le_refl _)⟩
    · simp [Builtin.append_, run_underlying ht, run_underlying htn, sizeOf, typeInfo, zeroValue, hi, hz, asInt, asIntOf, hw, hneg, hs1, hb1, hk48, hr, hk0, zeroCells_one, hzc, h63', h48', Question.forced, newRow, grownCap, hfo]
    · simp only [Array.size_append, List.size_toArray, size_zeroCells, hzc, List.length_replicate]
      simp only [Nat.mul_one] at hl
      simp [hl]
      omega
    · have hl2 : (xs ++ List.replicate k z).length = (n + k) * 1 := by simp [hl]
      simp only [Array.toList_append]
      rw [← hl2]
      exact List.take_left

theorem wpList_appBz (w : World) {ops : Array Oper} {rest : List Oper} {o : Oper} {a : Act} {Q : Exit → Act → World → Prop} (hgd : o.guard = none) (s x : Operand)
    (ho : o.op = .call { callee := .builtin .append, args := #[s, x], argTypes := #[22, 3] })
    (ao : Option Addr) (n cap : Nat) (cs : List UInt8) (hs : a.eval s = .slice ao n cap) (hn : n = cs.length) (hown : OwnB w ao cap cs)
    (y : Int) (k : Nat) (hx : a.eval x = .int .i64 y) (hk : y = (k : Int))
    (hbig : cs.length + k ≤ 1000000000)
    (h : ∀ ao' cap' cs' w', Hid (cs' = cs ++ List.replicate k 0) → OwnB w' ao' cap' cs' → Grew w ao w' ao' →
      wpList Try.prog ops Q rest (a.put o.dst (.slice ao' cs'.length cap')) w') : wpList Try.prog ops Q (o :: rest) a w := by
  subst hn hk
  obtain ⟨i0, hi, hz0, hz1, hz2⟩ := info_parts Try.info5
  obtain ⟨ao', cap', w', hrun, h1, h2⟩ := run_app_zeros (P := Try.prog) w 22 3 o.type 5 i0 _ .i64 .i64 Try.underlying22 Try.underlying3 hi hz0 hz1 hz2 rfl rfl ao cs.length cap _ hown k hbig
  refine wpList_plain hgd fun K hK => ?_
  unfold Oper.wp
  simp [execOp, ho, resolve, invoke, builtin, hs, hx, hrun, Result.andThen]
  refine hK _ _ ?_
  have hh := h ao' cap' (cs ++ List.replicate k 0) w' rfl (by simpa [OwnB, B] using h1) h2
  simpa using hh

theorem i64_and3 (n : Int) : bits .and .i64 n 3 = n % 4 := by
  have h3 : (BitVec.ofInt 64 3).toNat = 2 ^ 2 - 1 := by decide
  have key : (BitVec.ofInt 64 n &&& BitVec.ofInt 64 3).toNat = (n % ((2 ^ 64 : Nat) : Int)).toNat % 2 ^ 2 := by
    rw [BitVec.toNat_and, BitVec.toNat_ofInt, h3, Nat.and_two_pow_sub_one_eq_mod]
  show IntKind.i64.wrap ((BitVec.ofInt 64 n &&& BitVec.ofInt 64 3).toNat : Nat) = n % 4
  rw [key, IntKind.wrap_i64]
  omega

/-- The string of bytes. -/
def str (bs : List UInt8) : ByteArray := ⟨bs.toArray⟩
theorem str_inj {a b : List UInt8} (h : str a = str b) : a = b := by
  have := congrArg (fun s : ByteArray => s.data.toList) h
  simpa [str] using this
set_option maxRecDepth 100000 in
theorem run_conv {w : World} {ao : Option Addr} {cap : Nat} {bs : List UInt8} (h : SlB w ao cap bs) :
    (convert 22 9 (.slice ao bs.length cap)).run Try.prog w = .ok (.string (str bs)) w := by
  by_cases hb : bs = []
  · subst hb
    cases ao with
    | none => exact run_convert_bytes_nil w 22 5 Try.underlying22 Try.underlying5 _ _ 9 Try.underlying9
    | some a =>
      have hl : (loadCells a 0).run Try.prog w = .ok #[] w := by simp [loadCells, loadCellsFrom]
      rw [run_convert_bytes_string w 22 9 5 _ _ _ Try.underlying22 Try.underlying5 Try.underlying9]
      have := run_bytesToString (P := Try.prog) w a 0 cap [] (by simpa using hl)
      simp at this
      simp [this]
      rfl
  · obtain ⟨b, o, rfl, hc⟩ := Sl.form h (by simpa using hb)
    have := run_convert_bytes_arg (P := Try.prog) w 22 5 Try.underlying22 Try.underlying5 b o bs.length cap (bs.map fun u => (u.toNat : Int)) (by simp) (by
      intro i hi
      rw [hc i (B bs[i]) (by simp [hi])]
      simp [B, List.getD, hi]) 9 Try.underlying9
    rw [this]
    congr 2
    simp only [strOfNums, str, List.map_map]
    congr 1
    have : ∀ l : List UInt8, l.map ((fun n : Int => UInt8.ofNat n.toNat) ∘ fun u => (u.toNat : Int)) = l := by
      intro l
      induction l with
      | nil => rfl
      | cons x l ih => simp only [List.map_cons, ih]; simp
    rw [this]

end Go.Proofs.Ytanknjpcgceccaa
