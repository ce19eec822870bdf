/- NfsxSame: for every arguments, the law returns true, and its arguments read as they did. No condition. -/
import Derived.Test.YtanknjpcgceccaaLawSame
import Derived.Test.YtanknjpcgceccaaOpenS
namespace Go.Proofs.Ytanknjpcgceccaa
open Go.ChangeShapes Go.WideShapes Go.ChangeAt Go.RowKit

/-- The arguments by which the row is witnessed: all noughts. -/
abbrev noArgs : Array Value := (ArgsV.mk [] [] [] [] [] ⟨false, false, false, false, 0, 0, 0, 0, 0, 0, ⟨0, 0⟩, ⟨0, 0⟩⟩ false ⟨0, 0⟩ 0 0 0 0 0 0 [] 0 0 0 0 0 0 0).cells (.slice none 0 0) |>.toArray
abbrev noAttr : AttrV := ⟨0, 0, 0, 0, 0, 0, 0, 0, ⟨0, 0⟩, ⟨0, 0⟩, ⟨0, 0⟩⟩
abbrev noRes : Array Value := (ResV.mk 0 ⟨false, noAttr⟩ ⟨false, noAttr⟩ ⟨false, 0, ⟨0, 0⟩, ⟨0, 0⟩⟩ ⟨false, 0, ⟨0, 0⟩, ⟨0, 0⟩⟩ ⟨false, noAttr⟩ ⟨false, noAttr⟩ false [] 0 [] 0 false [] 0 0 0 [] 0 0 0 0).cells (.slice none 0 0) (.slice none 0 0) |>.toArray

set_option maxRecDepth 100000 in
theorem same_lifted (os : Os) (started : os.Started) (H : Type) (enc : TypeId × Value → H) :
    ReturnsInHanded {} Try.checked os 4 .any (Rows.nfsxSameSpec.pre6 enc Try.prog Try.f4 Rows.nfsxSameRow.domain false) (Rows.nfsxSameSpec.post enc Try.prog Try.f4 false true false false) := by
  refine returnsInHanded_of_change (C := Try.checked) Try.own started (by kernel_rfl) Try.func4
    (ChangeSpec.witness6 (enc := enc) (C := Try.checked) false ⟨#[], #[.agg noArgs, .agg noArgs, .agg noRes, .agg noRes], []⟩ 8 (by kernel_rfl) (by kernel_rfl) (by kernel_rfl) (by kernel_rfl)) ?_
  intro W base args ds gs before hval0 hW hcnd _
  have hval : ∀ (j : Nat) t v, Try.f4.params[j]? = some t → args[j]? = some v → Value.okWide Try.prog W .any base t v := hval0
  have hW' := hW
  obtain ⟨p, q, hA0, hV, rfl, hfz, hnd⟩ := hW
  have hA : DataW.TrodAll enc Try.prog W 0 (fun _ => true) true Try.f4.params.toList args.toList ds p := hA0
  rw [Try.params4] at hA hval
  obtain ⟨v0, v1, v2, v3, d0, d1, d2, d3, p0, p1, p2, p3, rfl, rfl, rfl, h0, h1, h2, h3⟩ := trodAll_four hA
  obtain ⟨rfl, rfl⟩ := trodVars_none hV
  simp only [List.append_nil] at hW'
  have h0k := h0
  have h1k := h1
  have h2k := h2
  have h3k := h3
  have hlt0 : ∀ x ∈ p0, x.block < W.heap.size := fun x hx => hW'.lt x (by simp [hx])
  have hlt1 : ∀ x ∈ p1, x.block < W.heap.size := fun x hx => hW'.lt x (by simp [hx])
  have hlt2 : ∀ x ∈ p2, x.block < W.heap.size := fun x hx => hW'.lt x (by simp [hx])
  have hlt3 : ∀ x ∈ p3, x.block < W.heap.size := fun x hx => hW'.lt x (by simp [hx])
  obtain ⟨A, rfl, _⟩ := okWide_struct Try.underlying30 (hval 0 30 v0 rfl rfl)
  obtain ⟨B, rfl, _⟩ := okWide_struct Try.underlying30 (hval 1 30 v1 rfl rfl)
  obtain ⟨R, rfl, _⟩ := okWide_struct Try.underlying42 (hval 2 42 v2 rfl rfl)
  obtain ⟨S, rfl, _⟩ := okWide_struct Try.underlying42 (hval 3 42 v3 rfl rfl)
  obtain ⟨_, hf0⟩ := h0
  obtain ⟨_, hf1⟩ := h1
  obtain ⟨_, hf2⟩ := h2
  obtain ⟨_, hf3⟩ := h3
  obtain ⟨x, ao, ac, ea, sa, ba, la, _⟩ := open_ArgsV hf0 hlt0
  obtain ⟨y, bo, bc, eb, sb, bb, lb, _⟩ := open_ArgsV hf1 hlt1
  obtain ⟨r, ro, rc, reo, rec, er, sr, br, ser, ber, lr, ler, _⟩ := open_ResV hf2 hlt2
  obtain ⟨s, so, sc, seo, sec, es, ss, bs, ses, bes, ls, les, _⟩ := open_ResV hf3 hlt3
  have ia : AIn W x A := ⟨ao, ac, by rw [← ea]; simp [Value.cells], sa, ba, la⟩
  have ib : AIn W y B := ⟨bo, bc, by rw [← eb]; simp [Value.cells], sb, bb, lb⟩
  have ir : RIn W r R := ⟨ro, rc, reo, rec, by rw [← er]; simp [Value.cells], sr, br, ser, ber, lr, ler⟩
  have is : RIn W s S := ⟨so, sc, seo, sec, by rw [← es]; simp [Value.cells], ss, bs, ses, bes, ls, les⟩
  clear hA0 hval0
  refine (same_any W x y A B r s R S ia ib ir is).mono fun e W' ⟨he, hm⟩ => ?_
  have hw : Below W.heap.size W W' := hm.below (fun _ _ h => h) (Nat.le_refl _)
  subst he
  refine ⟨_, rfl, law_post rfl rfl hW' rfl rfl rfl ?_ hw⟩
  have := trodAll_mk4 (Below.trod Try.laidOut (by kernel_rfl) (of_decide_eq_true (by kernel_rfl)) h0k hw hlt0) (Below.trod Try.laidOut (by kernel_rfl) (of_decide_eq_true (by kernel_rfl)) h1k hw hlt1)
    (Below.trod Try.laidOut (by kernel_rfl) (of_decide_eq_true (by kernel_rfl)) h2k hw hlt2) (Below.trod Try.laidOut (by kernel_rfl) (of_decide_eq_true (by kernel_rfl)) h3k hw hlt3)
  simp only [List.append_assoc]
  exact this

theorem nfsxSame_holds : Rows.NfsxSameSaid :=
  OpenClaim.holds_of_wide 4 Try.f4 rfl rfl rfl rfl rfl rfl rfl ⟨rfl, rfl, rfl, rfl, rfl⟩ rfl rfl rfl rfl rfl (by kernel_rfl) Try.func4 (by kernel_rfl)
    (of_decide_eq_true (by kernel_rfl)) (by unfold Func.isWrapper; first | (rw [if_pos (by decide +kernel)]; kernel_rfl) | (rw [if_neg (by decide +kernel)]; exact ⟨rfl, rfl⟩))
    (fun os started H enc _ => same_lifted os started H enc)

#print axioms nfsxSame_holds
end Go.Proofs.Ytanknjpcgceccaa
