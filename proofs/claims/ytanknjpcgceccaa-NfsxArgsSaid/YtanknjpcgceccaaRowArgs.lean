/- NfsxArgs: for every arguments, the law returns true, and its arguments read as they did. No condition. -/
import Derived.Test.YtanknjpcgceccaaLawArgs
import Derived.Test.YtanknjpcgceccaaOpenS
import Derived.SizedLaws
namespace Go.Proofs.Ytanknjpcgceccaa
open Go.ChangeShapes Go.WideShapes Go.ChangeAt Go.RowKit

section
variable {H : Type} {enc : TypeId × Value → H} {P : Program} {w : World} {R : Nat}
theorem fields_sized {t : TypeId} {fs : Array Field} (ht : P.underlying t = some (.struct fs)) {m : Nat} {cs : List Value} {x : DataW H × List MemPlace} (h : Tr enc P w m t cs x) (hw : ∀ n ∈ x.1.weights P t, n ≤ R) :
    ∃ n, ∀ (i : Nat) (f : Field), fs[i]? = some f → ∃ y, Tr enc P w n f.type ((cs.drop f.offset).take (P.cellsOf f.type)) y ∧ (∀ n ∈ y.1.weights P f.type, n ≤ R) := by
  obtain ⟨xs, n, _, rfl, hl, hlen, hf⟩ := DataW.trod_struct ht h
  refine ⟨n, fun i f hi => ?_⟩
  have hi' : i < xs.length := by rw [hlen]; exact (Array.getElem?_eq_some_iff.1 hi).1
  have h1 := hf i f hi
  rw [List.getElem?_eq_getElem hi'] at h1
  refine ⟨xs[i], h1, fun n hn => hw n ?_⟩
  unfold DataW.weights
  simp only [ht]
  refine DataW.weights_mem_each (j := i) (t := f.type) (d := xs[i].1) ?_ ?_ n hn
  · rw [List.getElem?_map, Array.getElem?_toList, hi]; rfl
  · rw [List.getElem?_map, List.getElem?_eq_getElem hi']; rfl
theorem string_sized {t : TypeId} (ht : P.underlying t = some .string) {m : Nat} {s : ByteArray} {x : DataW H × List MemPlace} (h : Tr enc P w m t [.string s] x) (hw : ∀ n ∈ x.1.weights P t, n ≤ R) : s.size ≤ R := by
  obtain ⟨s', he, rfl, _⟩ := DataW.trod_string ht h
  obtain rfl : s = s' := by injection he with h1; injection h1
  exact hw s.data.toList.length (by unfold DataW.weights; simp)
theorem bytes_sized {t e : TypeId} (ht : P.underlying t = some (.slice e)) (hb : P.bytesOf e = 1) {m : Nat} {ao : Option Addr} {len cap : Nat} {x : DataW H × List MemPlace} (h : Tr enc P w m t [.slice ao len cap] x) (hw : ∀ n ∈ x.1.weights P t, n ≤ R) : len ≤ R := by
  rcases DataW.trod_slice ht h with ⟨he, _⟩ | ⟨a, len', cap', elems, rest, n, _, he, rfl, _, _, _, hl, _⟩
  · have : len = 0 := by injection he with h1; injection h1
    omega
  · have e1 : len = len' := by injection he with h1; injection h1
    have := hw ((((elems.map (·.1)).length + (rest.map (·.1)).length) * P.bytesOf e)) (by unfold DataW.weights; simp [ht])
    rw [hb, List.length_map] at this
    omega
theorem size_ArgsV {m : Nat} {a : ArgsV} {ao : Option Addr} {cap : Nat} {x : DataW H × List MemPlace} (h : Tr enc Try.prog w m 30 (a.cells (.slice ao a.data.length cap)) x) (hw : ∀ n ∈ x.1.weights Try.prog 30, n ≤ R) :
    a.file.length ≤ R ∧ a.to.length ≤ R ∧ a.name.length ≤ R ∧ a.toName.length ≤ R ∧ a.path.length ≤ R ∧ a.data.length ≤ R := by
  obtain ⟨n, hf⟩ := fields_sized Try.underlying30 h hw
  have c_str : Try.prog.cellsOf 9 = 1 := by kernel_rfl
  have c_bytes : Try.prog.cellsOf 22 = 1 := by kernel_rfl
  obtain ⟨y0, h0, t0⟩ := hf 0 _ rfl
  replace h0 : Tr enc Try.prog w n 9 (((a.cells (.slice ao a.data.length cap)).drop 0).take (Try.prog.cellsOf 9)) y0 := h0
  rw [c_str] at h0
  obtain ⟨y1, h1, t1⟩ := hf 1 _ rfl
  replace h1 : Tr enc Try.prog w n 9 (((a.cells (.slice ao a.data.length cap)).drop 1).take (Try.prog.cellsOf 9)) y1 := h1
  rw [c_str] at h1
  obtain ⟨y2, h2, t2⟩ := hf 2 _ rfl
  replace h2 : Tr enc Try.prog w n 9 (((a.cells (.slice ao a.data.length cap)).drop 2).take (Try.prog.cellsOf 9)) y2 := h2
  rw [c_str] at h2
  obtain ⟨y3, h3, t3⟩ := hf 3 _ rfl
  replace h3 : Tr enc Try.prog w n 9 (((a.cells (.slice ao a.data.length cap)).drop 3).take (Try.prog.cellsOf 9)) y3 := h3
  rw [c_str] at h3
  obtain ⟨y4, h4, t4⟩ := hf 4 _ rfl
  replace h4 : Tr enc Try.prog w n 9 (((a.cells (.slice ao a.data.length cap)).drop 4).take (Try.prog.cellsOf 9)) y4 := h4
  rw [c_str] at h4
  obtain ⟨y5, h5, t5⟩ := hf 14 _ rfl
  replace h5 : Tr enc Try.prog w n 22 (((a.cells (.slice ao a.data.length cap)).drop 28).take (Try.prog.cellsOf 22)) y5 := h5
  rw [c_bytes] at h5
  exact ⟨string_sized Try.underlying9 (s := str a.file) h0 t0, string_sized Try.underlying9 (s := str a.to) h1 t1, string_sized Try.underlying9 (s := str a.name) h2 t2,
    string_sized Try.underlying9 (s := str a.toName) h3 t3, string_sized Try.underlying9 (s := str a.path) h4 t4, bytes_sized Try.underlying22 (by kernel_rfl) h5 t5⟩
end

/-- The arguments by which the row is witnessed: all noughts. -/
abbrev noArgs : Array Value := (ArgsV.mk [] [] [] [] [] ⟨false, false, false, false, 0, 0, 0, 0, 0, 0, ⟨0, 0⟩, ⟨0, 0⟩⟩ false ⟨0, 0⟩ 0 0 0 0 0 0 [] 0 0 0 0 0 0 0).cells (.slice none 0 0) |>.toArray

set_option maxRecDepth 100000 in
theorem args_lifted (os : Os) (started : os.Started) (H : Type) (enc : TypeId × Value → H) :
    ReturnsInHanded {} Try.checked os 3 .any (Rows.nfsxArgsSpec.pre6 enc Try.prog Try.f3 Rows.nfsxArgsRow.domain false) (Rows.nfsxArgsSpec.post enc Try.prog Try.f3 false true false false) := by
  refine returnsInHanded_of_change_sized (C := Try.checked) Try.own started (by kernel_rfl) Try.func3
    (ChangeSpec.witness6 (enc := enc) (C := Try.checked) false ⟨#[], #[.int .i64 0, .slice none 0 0, .agg noArgs], []⟩ 8 (by kernel_rfl) (by kernel_rfl) (by kernel_rfl) (by kernel_rfl)) ?_
  intro W base args ds gs before hval0 hW hcnd hsz0 _
  have hval : ∀ (j : Nat) t v, Try.f3.params[j]? = some t → args[j]? = some v → Value.okWide Try.prog W .any base t v := hval0
  have hsz : (DataW.weightsEach Try.prog (Try.f3.params.toList ++ Rows.nfsxArgsSpec.plain.varTypes Try.prog) (ds ++ gs)).all (· ≤ reachBytes) = true := hsz0
  have hW' := hW
  obtain ⟨p, q, hA0, hV, rfl, hfz, hnd⟩ := hW
  have hA : DataW.TrodAll enc Try.prog W 0 (fun _ => true) true Try.f3.params.toList args.toList ds p := hA0
  rw [Try.params3] at hA hval hsz
  obtain ⟨v0, v1, v2, d0, d1, d2, p0, p1, p2, rfl, rfl, rfl, h0, h1, h2⟩ := trodAll_three hA
  obtain ⟨rfl, rfl⟩ := trodVars_none hV
  simp only [List.append_nil] at hW'
  have h0k := h0
  have h1k := h1
  have h2k := h2
  have hlt0 : ∀ x ∈ p0, x.block < W.heap.size := fun x hx => hW'.lt x (by simp [hx])
  have hlt1 : ∀ x ∈ p1, x.block < W.heap.size := fun x hx => hW'.lt x (by simp [hx])
  have hlt2 : ∀ x ∈ p2, x.block < W.heap.size := fun x hx => hW'.lt x (by simp [hx])
  have hwt : ∀ n ∈ d2.weights Try.prog 30, n ≤ reachBytes := fun n hn => by
    have h := List.all_eq_true.1 hsz n (DataW.weights_mem_each (j := 2) (t := 30) (d := d2) rfl rfl n hn)
    exact of_decide_eq_true h
  obtain ⟨k, rfl⟩ := okWide_int Try.underlying3 (hval 0 3 v0 rfl rfl)
  obtain ⟨so, sl, sc, rfl⟩ := okWide_slice Try.underlying22 (hval 1 22 v1 rfl rfl)
  obtain ⟨A, rfl, _⟩ := okWide_struct Try.underlying30 (hval 2 30 v2 rfl rfl)
  obtain ⟨_, hf1⟩ := h1
  obtain ⟨_, hf2⟩ := h2
  obtain ⟨so', sc', bs, e1, sb, lb, _⟩ := open_bytes Try.underlying22 Try.underlying5 (by kernel_rfl) hf1 hlt1
  obtain ⟨x, ao, ac, ea, sa, ba, la, ga⟩ := open_ArgsV hf2 hlt2
  have hf2' := hf2
  rw [ea] at hf2'
  obtain ⟨z0, z1, z2, z3, z4, z5⟩ := size_ArgsV hf2' hwt
  have e1' : Value.slice so sl sc = .slice so' bs.length sc' := by
    have h := e1
    simp only [Value.cells] at h
    exact List.singleton_inj.1 h
  have ea' : A = (x.cells (.slice ao x.data.length ac)).toArray := by rw [← ea]; simp [Value.cells]
  rw [e1', ea']
  clear hA0 hval0 hsz0 hsz
  have hR : reachBytes = 140737488351232 := rfl
  rw [hR] at z0 z1 z2 z3 z4 z5
  refine (nfsxArgs_any k so' sc' bs x ao ac W sb lb sa ba ga (by omega) (by omega) (by omega) (by omega) (by omega) (by omega)).mono fun e W' ⟨he, hm⟩ => ?_
  have hw : Below W.heap.size W W' := hm.below (fun _ _ h => h) (Nat.le_refl _)
  subst he
  rw [← e1', ← ea']
  refine ⟨_, rfl, law_post rfl rfl hW' rfl rfl rfl ?_ hw⟩
  have := trodAll_mk3 (Below.trod Try.laidOut (by kernel_rfl) (of_decide_eq_true (by kernel_rfl)) h0k hw hlt0) (Below.trod Try.laidOut (by kernel_rfl) (of_decide_eq_true (by kernel_rfl)) h1k hw hlt1) (Below.trod Try.laidOut (by kernel_rfl) (of_decide_eq_true (by kernel_rfl)) h2k hw hlt2)
  simp only [List.append_assoc]
  exact this

theorem nfsxArgs_holds : Rows.NfsxArgsSaid :=
  OpenClaim.holds_of_wide 3 Try.f3 rfl rfl rfl rfl rfl rfl rfl ⟨rfl, rfl, rfl, rfl, rfl⟩ rfl rfl rfl rfl rfl (by kernel_rfl) Try.func3 (by kernel_rfl)
    (of_decide_eq_true (by kernel_rfl)) (by unfold Func.isWrapper; first | (rw [if_pos (by decide +kernel)]; kernel_rfl) | (rw [if_neg (by decide +kernel)]; exact ⟨rfl, rfl⟩))
    (fun os started H enc _ => args_lifted os started H enc)

#print axioms nfsxArgs_holds
end Go.Proofs.Ytanknjpcgceccaa
