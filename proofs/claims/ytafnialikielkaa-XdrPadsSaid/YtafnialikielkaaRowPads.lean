/- XdrPads: for every arguments, the law returns true, and its arguments read as they did. No condition. -/
import Derived.Test.YtafnialikielkaaLawPads
import Derived.Test.YtafnialikielkaaOpen
namespace Go.Proofs.Ytafnialikielkaa
open Go.ChangeShapes Go.WideShapes Go.ChangeAt Go.RowKit

set_option maxRecDepth 100000 in
theorem pads_lifted (os : Os) (started : os.Started) (H : Type) (enc : TypeId × Value → H) :
    ReturnsInHanded {} Try.checked os 5 .any (Rows.xdrPadsSpec.pre6 enc Try.prog Try.f5 Rows.xdrPadsRow.domain false) (Rows.xdrPadsSpec.post enc Try.prog Try.f5 false true false false) := by
  refine returnsInHanded_of_change (C := Try.checked) Try.own started (by kernel_rfl) Try.func5
    (ChangeSpec.witness6 (enc := enc) (C := Try.checked) false ⟨#[], #[.slice none 0 0, .int .i64 0, .int .u8 0, .slice none 0 0], []⟩ 8 (by kernel_rfl) (by kernel_rfl) (by kernel_rfl) (by kernel_rfl)) ?_
  intro W base args ds gs before hval0 hW hcnd _
  have hval : ∀ (j : Nat) t v, Try.f5.params[j]? = some t → args[j]? = some v → Value.okWide Try.prog W .any base t v := hval0
  have hW' := hW
  obtain ⟨p, q, hA0, hV, rfl, hfz, hnd⟩ := hW
  have hA : DataW.TrodAll enc Try.prog W 0 (fun _ => true) true Try.f5.params.toList args.toList ds p := hA0
  rw [Try.params5] at hA hval
  obtain ⟨v0, v1, v2, v3, d0, d1, d2, d3, p0, p1, p2, p3, rfl, rfl, rfl, h0, h1, h2, h3⟩ := trodAll_four hA
  obtain ⟨rfl, rfl⟩ := trodVars_none hV
  simp only [List.append_nil] at hW'
  have h0k := h0
  have h1k := h1
  have h2k := h2
  have h3k := h3
  have hlt0 : ∀ x ∈ p0, x.block < W.heap.size := fun x hx => hW'.lt x (by simp [hx])
  have hlt1 : ∀ x ∈ p1, x.block < W.heap.size := fun x hx => hW'.lt x (by simp [hx])
  have hlt2 : ∀ x ∈ p2, x.block < W.heap.size := fun x hx => hW'.lt x (by simp [hx])
  have hlt3 : ∀ x ∈ p3, x.block < W.heap.size := fun x hx => hW'.lt x (by simp [hx])
  obtain ⟨a0, len0, cap0, rfl⟩ := okWide_slice Try.underlying27 (hval 0 27 v0 rfl rfl)
  obtain ⟨c, rfl⟩ := okWide_int Try.underlying3 (hval 1 3 v1 rfl rfl)
  obtain ⟨y, rfl⟩ := okWide_int Try.underlying5 (hval 2 5 v2 rfl rfl)
  obtain ⟨a3, len3, cap3, rfl⟩ := okWide_slice Try.underlying27 (hval 3 27 v3 rfl rfl)
  obtain ⟨_, hf0⟩ := h0
  obtain ⟨_, hf1⟩ := h1
  obtain ⟨_, hf2⟩ := h2
  obtain ⟨_, hf3⟩ := h3
  obtain ⟨ao0, c0, bs, e0, s0, b0, m0⟩ := open_bytes Try.underlying27 Try.underlying5 (by kernel_rfl) hf0 hlt0
  obtain ⟨c', hc', _, wc⟩ := DataW.trod_int Try.underlying3 hf1
  obtain ⟨y', hy', _, wy⟩ := DataW.trod_int Try.underlying5 hf2
  obtain ⟨ao3, c3, ms, e3, s3, b3, m3⟩ := open_bytes Try.underlying27 Try.underlying5 (by kernel_rfl) hf3 hlt3
  have hv0 : Value.slice a0 len0 cap0 = .slice ao0 bs.length c0 := by simpa [Value.cells] using e0
  have hv1 : c = c' := by simpa [Value.cells] using hc'
  have hv2 : y = y' := by simpa [Value.cells] using hy'
  have hv3 : Value.slice a3 len3 cap3 = .slice ao3 ms.length c3 := by simpa [Value.cells] using e3
  subst hv1 hv2
  rw [hv0, hv3] at hW' ⊢
  rw [hv0] at h0k
  rw [hv3] at h3k
  clear hA0 hval0
  refine (pads_any W ao0 c0 bs s0 b0 c y (wf_i64 wc).1 (wf_i64 wc).2 (wf_u8 wy) ao3 c3 ms s3 b3).mono fun e W' ⟨he, hw⟩ => ?_
  subst he
  refine ⟨_, rfl, law_post rfl rfl hW' rfl rfl rfl ?_ hw⟩
  have := trodAll_mk4 (Below.trod Try.laidOut (by kernel_rfl) (of_decide_eq_true (by kernel_rfl)) h0k hw hlt0) (Below.trod Try.laidOut (by kernel_rfl) (of_decide_eq_true (by kernel_rfl)) h1k hw hlt1)
    (Below.trod Try.laidOut (by kernel_rfl) (of_decide_eq_true (by kernel_rfl)) h2k hw hlt2) (Below.trod Try.laidOut (by kernel_rfl) (of_decide_eq_true (by kernel_rfl)) h3k hw hlt3)
  simp only [List.append_assoc]
  exact this

theorem xdrPads_holds : Rows.XdrPadsSaid :=
  OpenClaim.holds_of_wide 5 Try.f5 rfl rfl rfl rfl rfl rfl rfl ⟨rfl, rfl, rfl, rfl, rfl⟩ rfl rfl rfl rfl rfl (by kernel_rfl) Try.func5 (by kernel_rfl)
    (of_decide_eq_true (by kernel_rfl)) (by unfold Func.isWrapper; first | (rw [if_pos (by decide +kernel)]; kernel_rfl) | (rw [if_neg (by decide +kernel)]; exact ⟨rfl, rfl⟩))
    (fun os started H enc _ => pads_lifted os started H enc)

#print axioms xdrPads_holds
end Go.Proofs.Ytafnialikielkaa
