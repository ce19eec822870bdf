/- What the bound on the arguments' bulk gives: the lengths of an api.Args, of an api.Res. (Its first lemmas are turned out of the page on '..UptoSaid' statements.) -/
import Derived.Test.YtanknjpcgceccaaOpenS
import Derived.Test.YtanknjpcgceccaaRows
namespace Go.Proofs.Ytanknjpcgceccaa
open Go.ChangeShapes Go.WideShapes Go.RowKit

section
variable {H : Type} {enc : TypeId × Value → H} {w : World}
theorem bulk_one (d : DataW H) : 1 ≤ Rows.uptoBulk d := by
  cases d with
  | lit l => cases l <;> simp [Rows.uptoBulk]
  | nil => simp [Rows.uptoBulk]
  | ptr d => simp [Rows.uptoBulk]
  | slice elems spare => simp [Rows.uptoBulk]
  | agg parts => simp [Rows.uptoBulk]
  | iface t d => simp [Rows.uptoBulk]
  | map entries => simp [Rows.uptoBulk]
  | held h => simp [Rows.uptoBulk]
theorem bulk_part {d : DataW H} {l : List (DataW H)} (h : d ∈ l) : Rows.uptoBulk d ≤ Rows.uptoBulkAll l := by
  induction l with
  | nil => cases h
  | cons x r ih =>
    simp only [Rows.uptoBulkAll]
    cases List.mem_cons.1 h with
    | inl e => subst e; omega
    | inr e => have := ih e; omega
theorem bulk_two {a b : DataW H} (l : List (DataW H)) : ∀ (i j : Nat), i < j → l[i]? = some a → l[j]? = some b → Rows.uptoBulk a + Rows.uptoBulk b ≤ Rows.uptoBulkAll l := by
  induction l with
  | nil => intro i j _ h; simp at h
  | cons x r ih =>
    intro i j hij ha hb
    obtain ⟨j', rfl⟩ : ∃ j', j = j' + 1 := ⟨j - 1, by omega⟩
    simp only [List.getElem?_cons_succ] at hb
    simp only [Rows.uptoBulkAll]
    cases i with
    | zero =>
      simp only [List.getElem?_cons_zero, Option.some.injEq] at ha
      subst ha
      have := bulk_part (List.mem_of_getElem? hb)
      omega
    | succ i =>
      simp only [List.getElem?_cons_succ] at ha
      have := ih i j' (by omega) ha hb
      omega
theorem bulk_length (l : List (DataW H)) : l.length ≤ Rows.uptoBulkAll l := by
  induction l with
  | nil => simp [Rows.uptoBulkAll]
  | cons x r ih => have := bulk_one x; simp only [Rows.uptoBulkAll, List.length_cons]; omega
theorem bulk_range (D : Nat → DataW H) (n : Nat) : Rows.uptoBulkAll ((List.range n).map D) = ((List.range n).map fun i => Rows.uptoBulk (D i)).sum := by
  generalize List.range n = l
  induction l with
  | nil => rfl
  | cons x r ih => simp only [List.map_cons, Rows.uptoBulkAll, List.sum_cons, ih]

variable {P : Program}
theorem bulk_fields {t : TypeId} {fs : Array Field} (ht : P.underlying t = some (.struct fs)) {m : Nat} {cs : List Value} {x : DataW H × List MemPlace} (h : Tr enc P w m t cs x) :
    ∃ (n : Nat) (ds : List (DataW H)), Rows.uptoBulk x.1 = Rows.uptoBulkAll ds + 1 ∧ ∀ (i : Nat) (f : Field), fs[i]? = some f → ∃ y, ds[i]? = some y.1 ∧ Tr enc P w n f.type ((cs.drop f.offset).take (P.cellsOf f.type)) y := by
  obtain ⟨xs, n, _, rfl, hl, hlen, hf⟩ := DataW.trod_struct ht h
  refine ⟨n, xs.map (·.1), by simp only [Rows.uptoBulk], fun i f hi => ?_⟩
  have hi' : i < xs.length := by rw [hlen]; exact (Array.getElem?_eq_some_iff.1 hi).1
  have h1 := hf i f hi
  rw [List.getElem?_eq_getElem hi'] at h1
  exact ⟨xs[i], by rw [List.getElem?_map, List.getElem?_eq_getElem hi']; rfl, h1⟩
theorem bulk_string {t : TypeId} (ht : P.underlying t = some .string) {m : Nat} {s : ByteArray} {x : DataW H × List MemPlace} (h : Tr enc P w m t [.string s] x) : s.size ≤ Rows.uptoBulk x.1 := by
  obtain ⟨s', he, rfl, _⟩ := DataW.trod_string ht h
  obtain rfl : s = s' := by injection he with h1; injection h1
  simp only [Rows.uptoBulk]
  have e : s.data.toList.length = s.size := by rw [Array.length_toList]; rfl
  omega
theorem bulk_slice {t e : TypeId} (ht : P.underlying t = some (.slice e)) {m : Nat} {ao : Option Addr} {len cap : Nat} {x : DataW H × List MemPlace} (h : Tr enc P w m t [.slice ao len cap] x) : len ≤ Rows.uptoBulk x.1 := by
  rcases DataW.trod_slice ht h with ⟨he, _⟩ | ⟨a, len', cap', elems, rest, n, _, he, rfl, _, _, _, hl, _⟩
  · have : len = 0 := by injection he with h1; injection h1
    omega
  · have e1 : len = len' := by injection he with h1; injection h1
    have h1 := bulk_length (elems.map (·.1))
    rw [List.length_map] at h1
    simp only [Rows.uptoBulk]
    omega
end
section
variable {H : Type} {enc : TypeId × Value → H} {w : World}
theorem bulk_ArgsV {m : Nat} {a : ArgsV} {ao : Option Addr} {cap : Nat} {x : DataW H × List MemPlace} (h : Tr enc Try.prog w m 30 (a.cells (.slice ao a.data.length cap)) x) :
    a.file.length ≤ Rows.uptoBulk x.1 ∧ a.to.length ≤ Rows.uptoBulk x.1 ∧ a.name.length ≤ Rows.uptoBulk x.1 ∧ a.toName.length ≤ Rows.uptoBulk x.1 ∧ a.path.length ≤ Rows.uptoBulk x.1 ∧ a.data.length ≤ Rows.uptoBulk x.1 := by
  obtain ⟨n, ds, hb, hf⟩ := bulk_fields Try.underlying30 h
  have c_str : Try.prog.cellsOf 9 = 1 := by kernel_rfl
  have c_bytes : Try.prog.cellsOf 22 = 1 := by kernel_rfl
  have le : ∀ {i : Nat} {y : DataW H × List MemPlace}, ds[i]? = some y.1 → Rows.uptoBulk y.1 ≤ Rows.uptoBulk x.1 := fun hi => by have := bulk_part (List.mem_of_getElem? hi); omega
  obtain ⟨y0, g0, h0⟩ := hf 0 _ rfl
  replace h0 : Tr enc Try.prog w n 9 (((a.cells (.slice ao a.data.length cap)).drop 0).take (Try.prog.cellsOf 9)) y0 := h0
  rw [c_str] at h0
  obtain ⟨y1, g1, h1⟩ := hf 1 _ rfl
  replace h1 : Tr enc Try.prog w n 9 (((a.cells (.slice ao a.data.length cap)).drop 1).take (Try.prog.cellsOf 9)) y1 := h1
  rw [c_str] at h1
  obtain ⟨y2, g2, h2⟩ := hf 2 _ rfl
  replace h2 : Tr enc Try.prog w n 9 (((a.cells (.slice ao a.data.length cap)).drop 2).take (Try.prog.cellsOf 9)) y2 := h2
  rw [c_str] at h2
  obtain ⟨y3, g3, h3⟩ := hf 3 _ rfl
  replace h3 : Tr enc Try.prog w n 9 (((a.cells (.slice ao a.data.length cap)).drop 3).take (Try.prog.cellsOf 9)) y3 := h3
  rw [c_str] at h3
  obtain ⟨y4, g4, h4⟩ := hf 4 _ rfl
  replace h4 : Tr enc Try.prog w n 9 (((a.cells (.slice ao a.data.length cap)).drop 4).take (Try.prog.cellsOf 9)) y4 := h4
  rw [c_str] at h4
  obtain ⟨y5, g5, h5⟩ := hf 14 _ rfl
  replace h5 : Tr enc Try.prog w n 22 (((a.cells (.slice ao a.data.length cap)).drop 28).take (Try.prog.cellsOf 22)) y5 := h5
  rw [c_bytes] at h5
  have b0 := bulk_string Try.underlying9 (s := str a.file) h0
  have b1 := bulk_string Try.underlying9 (s := str a.to) h1
  have b2 := bulk_string Try.underlying9 (s := str a.name) h2
  have b3 := bulk_string Try.underlying9 (s := str a.toName) h3
  have b4 := bulk_string Try.underlying9 (s := str a.path) h4
  have b5 := bulk_slice Try.underlying22 h5
  have l0 := le g0; have l1 := le g1; have l2 := le g2; have l3 := le g3; have l4 := le g4; have l5 := le g5
  exact ⟨Nat.le_trans b0 l0, Nat.le_trans b1 l1, Nat.le_trans b2 l2, Nat.le_trans b3 l3, Nat.le_trans b4 l4, Nat.le_trans b5 l5⟩
theorem bulk_EntryV {m : Nat} {e : EntryV} {x : DataW H × List MemPlace} (h : Tr enc Try.prog w m 105 e.cells x) : e.name.length + e.handle.length ≤ Rows.uptoBulk x.1 := by
  obtain ⟨n, ds, hb, hf⟩ := bulk_fields Try.underlying105 h
  have c_str : Try.prog.cellsOf 9 = 1 := by kernel_rfl
  obtain ⟨y1, g1, h1⟩ := hf 1 _ rfl
  replace h1 : Tr enc Try.prog w n 9 ((e.cells.drop 1).take (Try.prog.cellsOf 9)) y1 := h1
  rw [c_str] at h1
  obtain ⟨y5, g5, h5⟩ := hf 5 _ rfl
  replace h5 : Tr enc Try.prog w n 9 ((e.cells.drop 19).take (Try.prog.cellsOf 9)) y5 := h5
  rw [c_str] at h5
  have b1 := bulk_string Try.underlying9 (s := str e.name) h1
  have b5 := bulk_string Try.underlying9 (s := str e.handle) h5
  have b := bulk_two ds 1 5 (by decide) g1 g5
  have e1 : (str e.name).size = e.name.length := rfl
  have e2 : (str e.handle).size = e.handle.length := rfl
  omega
theorem sum_le {α : Type} (l : List α) (f : α → Nat) (B : Nat → Nat) (h : ∀ i a, l[i]? = some a → f a ≤ B i) : (l.map f).sum ≤ ((List.range l.length).map B).sum := by
  induction l generalizing B with
  | nil => simp
  | cons x r ih =>
    rw [List.length_cons, List.range_succ_eq_map, List.map_cons, List.map_cons, List.sum_cons, List.sum_cons, List.map_map]
    have h0 := h 0 x rfl
    have := ih (fun i => B (i + 1)) fun i a ha => h (i + 1) a (by simpa using ha)
    have e : ((List.range r.length).map (B ∘ Nat.succ)) = ((List.range r.length).map fun i => B (i + 1)) := rfl
    rw [e]
    omega
/-- The lines' names and handles, all of them. -/
theorem bulk_entries {m : Nat} {l : List EntryV} {eo : Option Addr} {ec : Nat} {x : DataW H × List MemPlace} (h : Tr enc Try.prog w m 40 [.slice eo l.length ec] x) (hs : SlE w eo ec l) :
    (l.map fun e => e.name.length + e.handle.length).sum ≤ Rows.uptoBulk x.1 := by
  have c_e : Try.prog.cellsOf 105 = 20 := by kernel_rfl
  rcases Deep.open_slice Try.underlying40 h with ⟨hc, rfl⟩ | ⟨a, len, cap, q, n, D, Pl, hc, hb, hl, hm, hq, rfl, hx⟩
  · have hc' : Value.slice eo l.length ec = .slice none 0 0 := List.singleton_inj.1 hc
    simp only [Value.slice.injEq] at hc'
    have : l = [] := List.eq_nil_of_length_eq_zero hc'.2.1
    subst this
    simp
  · simp only [if_true] at hq
    obtain rfl : q = cap := hq
    have hc' : Value.slice eo l.length ec = .slice (some a) len q := List.singleton_inj.1 hc
    simp only [Value.slice.injEq] at hc'
    obtain ⟨rfl, rfl, rfl⟩ := hc'
    have key : ∀ i e, l[i]? = some e → e.name.length + e.handle.length ≤ Rows.uptoBulk (D i) := by
      intro i e hi
      have hlt : i < l.length := (List.getElem?_eq_some_iff.1 hi).1
      have hel : l[i] = e := (List.getElem?_eq_some_iff.1 hi).2
      obtain ⟨cs', h1, h2⟩ := hx i (by omega)
      rw [c_e] at h1
      obtain ⟨b, o, hbo, hr⟩ := SlE.at hs hlt
      obtain rfl : a = ⟨b, o, none⟩ := by injection hbo
      obtain ⟨_, h3, h4⟩ := World.cells?_some h1
      have hcs : cs' = e.cells := by
        refine List.ext_getElem? fun j => ?_
        by_cases hj : j < 20
        · have h5 := h4 j hj
          have h6 := hr j (e.cells[j]'(by rw [EntryV.cells_length]; exact hj)) (by rw [hel]; exact List.getElem?_eq_getElem _)
          rw [WideShapes.add_plain, WideShapes.add_plain] at h5
          rw [← h5, h6, List.getElem?_eq_getElem]
        · rw [List.getElem?_eq_none (by omega), List.getElem?_eq_none (by rw [EntryV.cells_length]; omega)]
      rw [hcs] at h2
      exact bulk_EntryV h2
    have h1 := sum_le l (fun e => e.name.length + e.handle.length) (fun i => Rows.uptoBulk (D i)) key
    have h2 := bulk_range D l.length
    simp only [Rows.uptoBulk]
    omega
theorem bulk_ResV {m : Nat} {a : ResV} {ao : Option Addr} {cap : Nat} {eo : Option Addr} {ec : Nat} {x : DataW H × List MemPlace} (h : Tr enc Try.prog w m 42 (a.cells (.slice ao a.data.length cap) (.slice eo a.entries.length ec)) x) (hs : SlE w eo ec a.entries) :
    a.handle.length ≤ Rows.uptoBulk x.1 ∧ a.path.length ≤ Rows.uptoBulk x.1 ∧ a.data.length ≤ Rows.uptoBulk x.1 ∧ a.entries.length ≤ Rows.uptoBulk x.1 ∧ (a.entries.map fun e => e.name.length + e.handle.length).sum ≤ Rows.uptoBulk x.1 := by
  obtain ⟨n, ds, hb, hf⟩ := bulk_fields Try.underlying42 h
  have c_str : Try.prog.cellsOf 9 = 1 := by kernel_rfl
  have c_bytes : Try.prog.cellsOf 22 = 1 := by kernel_rfl
  have c_entries : Try.prog.cellsOf 40 = 1 := by kernel_rfl
  have le : ∀ {i : Nat} {y : DataW H × List MemPlace}, ds[i]? = some y.1 → Rows.uptoBulk y.1 ≤ Rows.uptoBulk x.1 := fun hi => by have := bulk_part (List.mem_of_getElem? hi); omega
  obtain ⟨y0, g0, h0⟩ := hf 8 _ rfl
  replace h0 : Tr enc Try.prog w n 9 (((a.cells (.slice ao a.data.length cap) (.slice eo a.entries.length ec)).drop 74).take (Try.prog.cellsOf 9)) y0 := h0
  rw [c_str] at h0
  obtain ⟨y1, g1, h1⟩ := hf 10 _ rfl
  replace h1 : Tr enc Try.prog w n 9 (((a.cells (.slice ao a.data.length cap) (.slice eo a.entries.length ec)).drop 76).take (Try.prog.cellsOf 9)) y1 := h1
  rw [c_str] at h1
  obtain ⟨y2, g2, h2⟩ := hf 13 _ rfl
  replace h2 : Tr enc Try.prog w n 22 (((a.cells (.slice ao a.data.length cap) (.slice eo a.entries.length ec)).drop 79).take (Try.prog.cellsOf 22)) y2 := h2
  rw [c_bytes] at h2
  obtain ⟨y3, g3, h3⟩ := hf 17 _ rfl
  replace h3 : Tr enc Try.prog w n 40 (((a.cells (.slice ao a.data.length cap) (.slice eo a.entries.length ec)).drop 83).take (Try.prog.cellsOf 40)) y3 := h3
  rw [c_entries] at h3
  have b0 := bulk_string Try.underlying9 (s := str a.handle) h0
  have b1 := bulk_string Try.underlying9 (s := str a.path) h1
  have b2 := bulk_slice Try.underlying22 h2
  have b3 := bulk_slice Try.underlying40 h3
  have b4 := bulk_entries h3 hs
  have l0 := le g0; have l1 := le g1; have l2 := le g2; have l3 := le g3
  exact ⟨Nat.le_trans b0 l0, Nat.le_trans b1 l1, Nat.le_trans b2 l2, Nat.le_trans b3 l3, Nat.le_trans b4 l3⟩
end

end Go.Proofs.Ytanknjpcgceccaa
