/- XdrRows: for every four slices that can be read, the law returns true, and its arguments read as they did. No condition. -/
import Derived.Test.YtafnialikielkaaLawRows
import Derived.Test.YtafnialikielkaaOpen
namespace Go.Proofs.Ytafnialikielkaa
open Go.ChangeShapes Go.WideShapes Go.ChangeAt Go.RowKit

theorem open_bss {H : Type} {enc : TypeId × Value → H} {w : World} {m : Nat} {cs : List Value} {x : DataW H × List MemPlace} (h : Tr enc Try.prog w m 39 cs x) (hlt : ∀ q ∈ x.2, q.block < w.heap.size) :
    ∃ (ao : Option Addr) (cap : Nat) (l : List BS), cs = [.slice ao l.length cap] ∧ Sl w 1 ao l.length cap (l.map BS.val) ∧ (∀ k, rb ao l.length k → k < w.heap.size) ∧
      (∀ s ∈ l, SlB w s.1 s.2.1 s.2.2 ∧ (∀ k, rb s.1 s.2.2.length k → k < w.heap.size) ∧ s.2.2.length ≤ 9223372036854775807) ∧ l.length ≤ 9223372036854775807 := by
  obtain ⟨ao, cap, l, h1, h2, h3, h4, h5⟩ := open_list (fun s : BS => [s.val]) (fun s : BS => SlB w s.1 s.2.1 s.2.2 ∧ (∀ k, rb s.1 s.2.2.length k → k < w.heap.size) ∧ s.2.2.length ≤ 9223372036854775807) Try.underlying39 (show Try.prog.cellsOf 27 = 1 by kernel_rfl) (by decide) (fun m cs' y hy hlt' => by
    obtain ⟨io, ic, bs, hB, hsl, hb, hl⟩ := open_bytes Try.underlying27 Try.underlying5 (by kernel_rfl) hy hlt'
    exact ⟨(io, ic, bs), hB, hsl, hb, hl⟩) h hlt
  exact ⟨ao, cap, l, h1, flat_one l BS.val ▸ h2, h3, h4, h5⟩

set_option maxRecDepth 100000 in
theorem rows_lifted (os : Os) (started : os.Started) (H : Type) (enc : TypeId × Value → H) :
    ReturnsInHanded {} Try.checked os 4 .any (Rows.xdrRowsSpec.pre6 enc Try.prog Try.f4 Rows.xdrRowsRow.domain false) (Rows.xdrRowsSpec.post enc Try.prog Try.f4 false true false false) := by
  refine returnsInHanded_of_change (C := Try.checked) Try.own started (by kernel_rfl) Try.func4
    (ChangeSpec.witness6 (enc := enc) (C := Try.checked) false ⟨#[], #[.slice none 0 0, .slice none 0 0, .slice none 0 0, .slice none 0 0], []⟩ 8 (by kernel_rfl) (by kernel_rfl) (by kernel_rfl) (by kernel_rfl)) ?_
  intro W base args ds gs before hval0 hW hcnd _
  have hval : ∀ (j : Nat) t v, Try.f4.params[j]? = some t → args[j]? = some v → Value.okWide Try.prog W .any base t v := hval0
  have hW' := hW
  obtain ⟨p, q, hA0, hV, rfl, hfz, hnd⟩ := hW
  have hA : DataW.TrodAll enc Try.prog W 0 (fun _ => true) true Try.f4.params.toList args.toList ds p := hA0
  rw [Try.params4] at hA hval
  obtain ⟨v0, v1, v2, v3, d0, d1, d2, d3, p0, p1, p2, p3, rfl, rfl, rfl, h0, h1, h2, h3⟩ := trodAll_four hA
  obtain ⟨rfl, rfl⟩ := trodVars_none hV
  simp only [List.append_nil] at hW'
  have h0k := h0
  have h1k := h1
  have h2k := h2
  have h3k := h3
  have hlt0 : ∀ x ∈ p0, x.block < W.heap.size := fun x hx => hW'.lt x (by simp [hx])
  have hlt1 : ∀ x ∈ p1, x.block < W.heap.size := fun x hx => hW'.lt x (by simp [hx])
  have hlt2 : ∀ x ∈ p2, x.block < W.heap.size := fun x hx => hW'.lt x (by simp [hx])
  have hlt3 : ∀ x ∈ p3, x.block < W.heap.size := fun x hx => hW'.lt x (by simp [hx])
  obtain ⟨a0, len0, cap0, rfl⟩ := okWide_slice Try.underlying36 (hval 0 36 v0 rfl rfl)
  obtain ⟨a1, len1, cap1, rfl⟩ := okWide_slice Try.underlying37 (hval 1 37 v1 rfl rfl)
  obtain ⟨a2, len2, cap2, rfl⟩ := okWide_slice Try.underlying38 (hval 2 38 v2 rfl rfl)
  obtain ⟨a3, len3, cap3, rfl⟩ := okWide_slice Try.underlying39 (hval 3 39 v3 rfl rfl)
  obtain ⟨_, hf0⟩ := h0
  obtain ⟨_, hf1⟩ := h1
  obtain ⟨_, hf2⟩ := h2
  obtain ⟨_, hf3⟩ := h3
  obtain ⟨ao0, c0, l0, e0, s0, b0, g0, m0⟩ := open_nums Try.underlying36 Try.underlying44 (by kernel_rfl) hf0 hlt0
  obtain ⟨ao1, c1, l1, e1, s1, b1, g1, m1⟩ := open_nums Try.underlying37 Try.underlying30 (by kernel_rfl) hf1 hlt1
  obtain ⟨ao2, c2, l2, e2, s2, b2, m2⟩ := open_bools Try.underlying38 Try.underlying4 (by kernel_rfl) hf2 hlt2
  obtain ⟨ao3, c3, l3, e3, s3, b3, g3, m3⟩ := open_bss hf3 hlt3
  have hv0 : Value.slice a0 len0 cap0 = .slice ao0 l0.length c0 := by simpa [Value.cells] using e0
  have hv1 : Value.slice a1 len1 cap1 = .slice ao1 l1.length c1 := by simpa [Value.cells] using e1
  have hv2 : Value.slice a2 len2 cap2 = .slice ao2 l2.length c2 := by simpa [Value.cells] using e2
  have hv3 : Value.slice a3 len3 cap3 = .slice ao3 l3.length c3 := by simpa [Value.cells] using e3
  rw [hv0, hv1, hv2, hv3] at hW' ⊢
  rw [hv0] at h0k
  rw [hv1] at h1k
  rw [hv2] at h2k
  rw [hv3] at h3k
  clear hA0 hval0
  refine (rows_any W ao0 c0 l0 ao1 c1 l1 ao2 c2 l2 ao3 c3 l3 s0 b0 (fun v hv => wf_u32 (g0 v hv)) m0 s1 b1 (fun v hv => wf_u64 (g1 v hv)) m1 s2 b2 m2 s3 b3 g3 m3).mono fun e W' ⟨he, hw⟩ => ?_
  subst he
  refine ⟨_, rfl, law_post rfl rfl hW' rfl rfl rfl ?_ hw⟩
  have := trodAll_mk4 (Below.trod Try.laidOut (by kernel_rfl) (of_decide_eq_true (by kernel_rfl)) h0k hw hlt0) (Below.trod Try.laidOut (by kernel_rfl) (of_decide_eq_true (by kernel_rfl)) h1k hw hlt1)
    (Below.trod Try.laidOut (by kernel_rfl) (of_decide_eq_true (by kernel_rfl)) h2k hw hlt2) (Below.trod Try.laidOut (by kernel_rfl) (of_decide_eq_true (by kernel_rfl)) h3k hw hlt3)
  simp only [List.append_assoc]
  exact this

theorem xdrRows_holds : Rows.XdrRowsSaid :=
  OpenClaim.holds_of_wide 4 Try.f4 rfl rfl rfl rfl rfl rfl rfl ⟨rfl, rfl, rfl, rfl, rfl⟩ rfl rfl rfl rfl rfl (by kernel_rfl) Try.func4 (by kernel_rfl)
    (of_decide_eq_true (by kernel_rfl)) (by unfold Func.isWrapper; first | (rw [if_pos (by decide +kernel)]; kernel_rfl) | (rw [if_neg (by decide +kernel)]; exact ⟨rfl, rfl⟩))
    (fun os started H enc _ => rows_lifted os started H enc)

#print axioms xdrRows_holds
end Go.Proofs.Ytafnialikielkaa
