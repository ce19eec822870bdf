/- The arguments as they come in: a slice of whatever elements, its cells, its block. No walk. -/
import Derived.Test.YtanknjpcgceccaaBase
import Derived.ProofKit
import Derived.Deep.Slices
namespace Go.Proofs.Ytanknjpcgceccaa
open Go.RowKit Go.ChangeShapes Go.WideShapes

section
variable {H : Type} {enc : TypeId × Value → H} {P : Program} {w : World}

/-- What is read of a value, under a fuel. -/
abbrev Tr (enc : TypeId × Value → H) (P : Program) (w : World) (m : Nat) (t : TypeId) (cs : List Value) (x : DataW H × List MemPlace) : Prop := DataW.trod enc P w 0 (fun _ => true) true m t cs = some x

theorem open_list {α : Type} {t e : TypeId} {sz : Nat} (f : α → List Value) (good : α → Prop) (ht : P.underlying t = some (.slice e)) (hc : P.cellsOf e = sz) (hpos : 0 < sz)
    (hel : ∀ m cs' y, Tr enc P w m e cs' y → (∀ q ∈ y.2, q.block < w.heap.size) → ∃ a, cs' = f a ∧ good a)
    {m : Nat} {cs : List Value} {x : DataW H × List MemPlace} (h : Tr enc P w m t cs x) (hlt : ∀ q ∈ x.2, q.block < w.heap.size) :
    ∃ (ao : Option Addr) (cap : Nat) (l : List α), cs = [.slice ao l.length cap] ∧ Sl w sz ao l.length cap (l.flatMap f) ∧ (∀ k, rb ao l.length k → k < w.heap.size) ∧ (∀ a ∈ l, good a) ∧ l.length ≤ 9223372036854775807 := by
  rcases Deep.open_slice ht h with ⟨rfl, rfl⟩ | ⟨a, len, cap, q, n, D, Pl, rfl, hb, hl, hm, hq, rfl, hx⟩
  · exact ⟨none, 0, [], rfl, Sl.nil w sz, fun k hk => absurd rfl hk.1, fun a ha => by simp at ha, by simp⟩
  · simp only [if_true] at hq
    obtain rfl : q = cap := hq
    rw [hc] at hx
    have hrow : ∀ p ∈ MemPlace.row a (q * P.cellsOf e), p.block < w.heap.size := fun p hp => hlt p (List.mem_append_left _ hp)
    have hpl : ∀ i, i < q → ∀ p ∈ Pl i, p.block < w.heap.size := fun i hi p hp => hlt p (List.mem_append_right _ (List.mem_flatMap.2 ⟨i, List.mem_range.2 hi, hp⟩))
    have hex : ∀ i, i < len → ∃ b, w.cells? 0 (a.add (i * sz)) sz = some (f b) ∧ good b := by
      intro i hi
      obtain ⟨cs', h1, h2⟩ := hx i (by omega)
      obtain ⟨b, rfl, hg⟩ := hel n cs' (D i, Pl i) h2 (hpl i (by omega))
      exact ⟨b, h1, hg⟩
    have hlist : ∀ k, k ≤ len → ∃ l : List α, l.length = k ∧ (∀ b ∈ l, good b) ∧ ∀ i (hi : i < l.length), w.cells? 0 (a.add (i * sz)) sz = some (f l[i]) := by
      intro k
      induction k with
      | zero => intro _; exact ⟨[], rfl, by simp, fun i hi => by simp at hi⟩
      | succ k ih =>
        intro hk
        obtain ⟨l, hl1, hl2, hl3⟩ := ih (by omega)
        obtain ⟨b, hb1, hb2⟩ := hex k (by omega)
        refine ⟨l ++ [b], by simp [hl1], ?_, ?_⟩
        · intro c hc
          rcases List.mem_append.1 hc with h | h
          · exact hl2 c h
          · rw [List.mem_singleton.1 h]; exact hb2
        · intro i hi
          rcases Nat.lt_or_ge i l.length with h | h
          · rw [List.getElem_append_left h]; exact hl3 i h
          · have hik : i = k := by simp at hi; omega
            subst hik
            rw [List.getElem_append_right h]
            simpa [hl1] using hb1
    obtain ⟨l, rfl, hl2, hl3⟩ := hlist len (Nat.le_refl _)
    have hflen : ∀ i (hi : i < l.length), (f l[i]).length = sz := fun i hi => (World.cells?_some (hl3 i hi)).2.1
    have hall : ∀ b ∈ l, (f b).length = sz := by
      intro b hb
      obtain ⟨i, hi, rfl⟩ := List.getElem_of_mem hb
      exact hflen i hi
    have hsum : ∀ l : List α, (∀ b ∈ l, (f b).length = sz) → (l.flatMap f).length = l.length * sz := by
      intro l
      induction l with
      | nil => intro _; simp
      | cons b l ih =>
        intro h
        rw [List.flatMap_cons, List.length_append, h b (by simp), ih (fun c hc => h c (by simp [hc])), List.length_cons, Nat.add_mul]
        omega
    have hspot : l.length ≠ 0 → a.spot = none := by
      intro hn
      have h0 := hl3 0 (by omega)
      have hv := hall l[0] (by simp)
      have h1 := (World.cells?_some h0).2.2 0 (by omega)
      have h2 : (f l[0])[0]? = some ((f l[0])[0]'(by omega)) := by simp
      rw [h2] at h1
      have := World.cell?_spot h1
      simpa [Addr.add] using this
    have hcell : ∀ j u, (l.flatMap f)[j]? = some u → ∃ b o, some a = some ⟨b, o, none⟩ ∧ w.cell? ⟨b, o + j, none⟩ = some u := by
      intro j u hu
      have hj : j < (l.flatMap f).length := (List.getElem?_eq_some_iff.1 hu).1
      rw [hsum l hall] at hj
      have hln : l.length ≠ 0 := by rintro h; rw [h] at hj; simp at hj
      have hs := hspot hln
      obtain ⟨b, o, sp⟩ := a
      simp only at hs
      subst hs
      refine ⟨b, o, rfl, ?_⟩
      have hq : j / sz < l.length := Nat.div_lt_of_lt_mul (by rw [Nat.mul_comm]; exact hj)
      have hr : j % sz < sz := Nat.mod_lt _ hpos
      have hdecomp : j = j / sz * sz + j % sz := by rw [Nat.mul_comm]; exact (Nat.div_add_mod j sz).symm
      have h1 := (World.cells?_some (hl3 (j / sz) hq)).2.2 (j % sz) hr
      have h2 : (l.flatMap f)[j]? = (f l[j / sz])[j % sz]? := by
        have key : ∀ (l : List α), (∀ b ∈ l, (f b).length = sz) → ∀ k (hk : k < l.length) i, i < sz → (l.flatMap f)[k * sz + i]? = (f l[k])[i]? := by
          intro l
          induction l with
          | nil => intro _ k hk; simp at hk
          | cons b l ih =>
            intro hb k hk i hi
            rw [List.flatMap_cons]
            cases k with
            | zero => simp [List.getElem?_append_left (show i < (f b).length by rw [hb b (by simp)]; exact hi)]
            | succ k =>
              rw [List.getElem?_append_right (by rw [hb b (by simp), Nat.add_mul]; omega), hb b (by simp)]
              rw [show (k + 1) * sz + i - sz = k * sz + i by rw [Nat.add_mul]; omega]
              simp at hk
              simpa using ih (fun c hc => hb c (by simp [hc])) k hk i hi
        rw [← key l hall (j / sz) hq (j % sz) hr, ← hdecomp]
      rw [h2] at hu
      rw [hu] at h1
      rw [Deep.add_add, Nat.mul_comm] at h1
      rw [Nat.mul_comm, Nat.div_add_mod'] at h1
      have hplain : (⟨b, o, none⟩ : Addr).add j = ⟨b, o + j, none⟩ := WideShapes.add_plain b o j
      rw [hplain] at h1
      exact h1
    refine ⟨some a, q, l, rfl, ⟨hsum l hall, hl, by simp, hcell⟩, fun k hk => ?_, hl2, ?_⟩
    · have hk' : a.block = k := hk.2
      have hp : 0 < q * P.cellsOf e := by
        rw [hc]
        have : l.length ≠ 0 := hk.1
        exact Nat.mul_pos (by omega) hpos
      have := hrow (.cell a.block (a.off + 0)) (by unfold MemPlace.row; exact List.mem_map.2 ⟨0, List.mem_range.2 hp, rfl⟩)
      rw [← hk']
      exact this
    · simp only [maxLen] at hm; omega

/-! ### Elements -/
theorem flat_one {α : Type} (l : List α) (g : α → Value) : l.flatMap (fun a => [g a]) = l.map g := by
  induction l with
  | nil => rfl
  | cons b l ih => rw [List.flatMap_cons, ih]; rfl

/-- A struct's fields. -/
theorem open_fields {t : TypeId} {fs : Array Field} (ht : P.underlying t = some (.struct fs)) {m : Nat} {cs : List Value} {x : DataW H × List MemPlace} (h : Tr enc P w m t cs x) (hlt : ∀ q ∈ x.2, q.block < w.heap.size) :
    ∃ n, cs.length = P.cellsOf t ∧ ∀ (i : Nat) (f : Field), fs[i]? = some f → ∃ y, Tr enc P w n f.type ((cs.drop f.offset).take (P.cellsOf f.type)) y ∧ (∀ q ∈ y.2, q.block < w.heap.size) := by
  obtain ⟨xs, n, _, rfl, hl, hlen, hf⟩ := DataW.trod_struct ht h
  refine ⟨n, hl, fun i f hi => ?_⟩
  have hi' : i < xs.length := by rw [hlen]; exact (Array.getElem?_eq_some_iff.1 hi).1
  have h1 := hf i f hi
  rw [List.getElem?_eq_getElem hi'] at h1
  exact ⟨xs[i], h1, fun q hq => hlt q (List.mem_flatMap.2 ⟨xs[i], by simp, hq⟩)⟩

theorem wf_u8 {n : Int} (h : (Lit.int .u8 n).wf = true) : 0 ≤ n ∧ n < 256 := by
  simp [Lit.wf, IntKind.min, IntKind.max, IntKind.bits, IntKind.signed] at h
  omega
theorem wf_u32 {n : Int} (h : (Lit.int .u32 n).wf = true) : 0 ≤ n ∧ n < 4294967296 := by
  simp [Lit.wf, IntKind.min, IntKind.max, IntKind.bits, IntKind.signed] at h
  omega
theorem wf_u64 {n : Int} (h : (Lit.int .u64 n).wf = true) : 0 ≤ n ∧ n < 18446744073709551616 := by
  simp [Lit.wf, IntKind.min, IntKind.max, IntKind.bits, IntKind.signed] at h
  omega
theorem wf_i64 {n : Int} (h : (Lit.int .i64 n).wf = true) : -9223372036854775808 ≤ n ∧ n ≤ 9223372036854775807 := by
  simp [Lit.wf, IntKind.min, IntKind.max, IntKind.bits, IntKind.signed] at h
  omega

/-- A slice of bytes. -/
theorem open_bytes {t e : TypeId} (ht : P.underlying t = some (.slice e)) (he : P.underlying e = some (.int .u8)) (hc : P.cellsOf e = 1) {m : Nat} {cs : List Value} {x : DataW H × List MemPlace} (h : Tr enc P w m t cs x) (hlt : ∀ q ∈ x.2, q.block < w.heap.size) :
    ∃ ao cap bs, cs = [.slice ao bs.length cap] ∧ SlB w ao cap bs ∧ (∀ k, rb ao bs.length k → k < w.heap.size) ∧ bs.length ≤ 9223372036854775807 := by
  obtain ⟨ao, cap, l, h1, h2, h3, _, h5⟩ := open_list (fun u : UInt8 => [B u]) (fun _ => True) ht hc (by decide) (fun m cs' y hy _ => by
    obtain ⟨n, rfl, _, hw⟩ := DataW.trod_int he hy
    exact ⟨u8 n, by rw [← B_of (wf_u8 hw)], trivial⟩) h hlt
  refine ⟨ao, cap, l, h1, ?_, h3, h5⟩
  have hf : l.flatMap (fun u : UInt8 => [B u]) = l.map B := flat_one l B
  rw [hf] at h2
  exact h2

/-- A slice of integers. -/
theorem open_nums {t e : TypeId} {k : IntKind} (ht : P.underlying t = some (.slice e)) (he : P.underlying e = some (.int k)) (hc : P.cellsOf e = 1) {m : Nat} {cs : List Value} {x : DataW H × List MemPlace} (h : Tr enc P w m t cs x) (hlt : ∀ q ∈ x.2, q.block < w.heap.size) :
    ∃ (ao : Option Addr) (cap : Nat) (l : List Int), cs = [.slice ao l.length cap] ∧ Sl w 1 ao l.length cap (l.map (Value.int k)) ∧ (∀ k, rb ao l.length k → k < w.heap.size) ∧ (∀ n ∈ l, (Lit.int k n).wf = true) ∧ l.length ≤ 9223372036854775807 := by
  obtain ⟨ao, cap, l, h1, h2, h3, h4, h5⟩ := open_list (fun n : Int => [Value.int k n]) (fun n => (Lit.int k n).wf = true) ht hc (by decide) (fun m cs' y hy _ => by
    obtain ⟨n, rfl, _, hw⟩ := DataW.trod_int he hy
    exact ⟨n, rfl, hw⟩) h hlt
  exact ⟨ao, cap, l, h1, flat_one l (Value.int k) ▸ h2, h3, h4, h5⟩
theorem open_bools {t e : TypeId} (ht : P.underlying t = some (.slice e)) (he : P.underlying e = some .bool) (hc : P.cellsOf e = 1) {m : Nat} {cs : List Value} {x : DataW H × List MemPlace} (h : Tr enc P w m t cs x) (hlt : ∀ q ∈ x.2, q.block < w.heap.size) :
    ∃ (ao : Option Addr) (cap : Nat) (l : List Bool), cs = [.slice ao l.length cap] ∧ Sl w 1 ao l.length cap (l.map Value.bool) ∧ (∀ k, rb ao l.length k → k < w.heap.size) ∧ l.length ≤ 9223372036854775807 := by
  obtain ⟨ao, cap, l, h1, h2, h3, _, h5⟩ := open_list (fun n : Bool => [Value.bool n]) (fun _ => True) ht hc (by decide) (fun m cs' y hy _ => by
    obtain ⟨n, rfl, _⟩ := DataW.trod_bool he hy
    exact ⟨n, rfl, trivial⟩) h hlt
  exact ⟨ao, cap, l, h1, flat_one l Value.bool ▸ h2, h3, h5⟩

end

/-- A result that is true, in a world in which nothing old has changed: the law's post, whatever the arguments. -/
theorem law_post {H : Type} {enc : TypeId × Value → H} {f : Func} {spec : ChangeSpec} {W W' : World} {args : Array Value} {ds : List (DataW H)} {p : List MemPlace} (hf : f.resultTypes = #[4])
    (hv : spec.vars = []) (hW : DataW.Whole enc Try.prog f.params.toList spec.vars false W args.toList ds [] p) (hs : (spec.fn H ds).results = [.lit (.bool true)]) (hs2 : (spec.fn H ds).args = ds) (hs3 : (spec.fn H ds).vars = [])
    (hA : DataW.TrodAll enc Try.prog W' 0 (fun b => decide (b < W.heap.size)) true f.params.toList args.toList ds p) (hb : Below W.heap.size W W') :
    spec.post enc Try.prog f false true false false W args (.bool true) W' := by
  refine ⟨ds, [], p, [], p, [], hW, ?_, ?_, ?_, hb.frame _, fun h => by cases h⟩
  · rw [List.append_nil, hs, hf]
    exact trodAll_mk1 (shut_bool Try.underlying4 true)
  · rw [List.append_nil, hs2]
    exact hA
  · rw [List.append_nil, hs3, hv]
    exact rfl

theorem Try.own : ownKnob Try.prog.godebug = none := by kernel_rfl
theorem Try.laidOut : laidOutB Try.prog = true := by kernel_rfl

end Go.Proofs.Ytanknjpcgceccaa
