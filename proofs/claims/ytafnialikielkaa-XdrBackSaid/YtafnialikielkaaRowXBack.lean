/- XdrBack: for every items and cut, the law returns true, and its arguments read as they did. No condition. -/
import Derived.Test.YtafnialikielkaaLawXBack
import Derived.Test.YtafnialikielkaaOpen
namespace Go.Proofs.Ytafnialikielkaa
open Go.ChangeShapes Go.WideShapes Go.ChangeAt Go.RowKit

theorem open_itemsN {H : Type} {enc : TypeId × Value → H} {w : World} {m : Nat} {cs : List Value} {x : DataW H × List MemPlace} (h : Tr enc Try.prog w m 22 cs x) (hlt : ∀ q ∈ x.2, q.block < w.heap.size) :
    ∃ (ao : Option Addr) (cap : Nat) (l : List Itm), cs = [.slice ao l.length cap] ∧ Sl w 5 ao l.length cap (l.flatMap Itm.cells) ∧ (∀ k, rb ao l.length k → k < w.heap.size) ∧ (∀ i ∈ l, i.goodN w) ∧ l.length ≤ 9223372036854775807 := by
  refine open_list Itm.cells (Itm.goodN w) Try.underlying22 (show Try.prog.cellsOf 32 = 5 by kernel_rfl) (by decide) (fun m cs' y hy hlt' => ?_) h hlt
  obtain ⟨n, hl, hf⟩ := open_fields Try.underlying32 hy hlt'
  rw [show Try.prog.cellsOf 32 = 5 by kernel_rfl] at hl
  match cs', hl with
  | [c0, c1, c2, c3, c4], _ =>
    obtain ⟨y0, h0, _⟩ := hf 0 _ rfl
    obtain ⟨y1, h1, _⟩ := hf 1 _ rfl
    obtain ⟨y2, h2, _⟩ := hf 2 _ rfl
    obtain ⟨y3, h3, _⟩ := hf 3 _ rfl
    obtain ⟨y4, h4, l4⟩ := hf 4 _ rfl
    have e0 : Try.prog.cellsOf 3 = 1 := by kernel_rfl
    have e2 : Try.prog.cellsOf 30 = 1 := by kernel_rfl
    have e3 : Try.prog.cellsOf 4 = 1 := by kernel_rfl
    have e4 : Try.prog.cellsOf 27 = 1 := by kernel_rfl
    have g0 : Tr enc Try.prog w n 3 (([c0, c1, c2, c3, c4].drop 0).take (Try.prog.cellsOf 3)) y0 := h0
    have g1 : Tr enc Try.prog w n 3 (([c0, c1, c2, c3, c4].drop 1).take (Try.prog.cellsOf 3)) y1 := h1
    have g2 : Tr enc Try.prog w n 30 (([c0, c1, c2, c3, c4].drop 2).take (Try.prog.cellsOf 30)) y2 := h2
    have g3 : Tr enc Try.prog w n 4 (([c0, c1, c2, c3, c4].drop 3).take (Try.prog.cellsOf 4)) y3 := h3
    have g4 : Tr enc Try.prog w n 27 (([c0, c1, c2, c3, c4].drop 4).take (Try.prog.cellsOf 27)) y4 := h4
    rw [e0] at g0 g1
    rw [e2] at g2
    rw [e3] at g3
    rw [e4] at g4
    clear h0 h1 h2 h3 h4
    have h0 : Tr enc Try.prog w n 3 [c0] y0 := g0
    have h1 : Tr enc Try.prog w n 3 [c1] y1 := g1
    have h2 : Tr enc Try.prog w n 30 [c2] y2 := g2
    have h3 : Tr enc Try.prog w n 4 [c3] y3 := g3
    have h4 : Tr enc Try.prog w n 27 [c4] y4 := g4
    obtain ⟨k, hk, _, _⟩ := DataW.trod_int Try.underlying3 h0
    obtain ⟨N, hN, _, wN⟩ := DataW.trod_int Try.underlying3 h1
    obtain ⟨V, hV, _, wV⟩ := DataW.trod_int Try.underlying30 h2
    obtain ⟨On, hOn, _⟩ := DataW.trod_bool Try.underlying4 h3
    obtain ⟨io, ic, bs, hB, hsl, hb, _⟩ := open_bytes Try.underlying27 Try.underlying5 (by kernel_rfl) h4 l4
    simp only [List.cons.injEq, and_true] at hk hN hV hOn hB
    subst hk hN hV hOn hB
    exact ⟨⟨k, N, V, On, io, ic, bs⟩, rfl, ⟨⟨hsl, hb, wf_u64 wV⟩, wf_i64 wN⟩⟩

set_option maxRecDepth 100000 in
theorem xback_lifted (os : Os) (started : os.Started) (H : Type) (enc : TypeId × Value → H) :
    ReturnsInHanded {} Try.checked os 7 .any (Rows.xdrBackSpec.pre6 enc Try.prog Try.f7 Rows.xdrBackRow.domain false) (Rows.xdrBackSpec.post enc Try.prog Try.f7 false true false false) := by
  refine returnsInHanded_of_change (C := Try.checked) Try.own started (by kernel_rfl) Try.func7
    (ChangeSpec.witness6 (enc := enc) (C := Try.checked) false ⟨#[], #[.slice none 0 0, .int .i64 0], []⟩ 8 (by kernel_rfl) (by kernel_rfl) (by kernel_rfl) (by kernel_rfl)) ?_
  intro W base args ds gs before hval0 hW hcnd _
  have hval : ∀ (j : Nat) t v, Try.f7.params[j]? = some t → args[j]? = some v → Value.okWide Try.prog W .any base t v := hval0
  have hW' := hW
  obtain ⟨p, q, hA0, hV, rfl, hfz, hnd⟩ := hW
  have hA : DataW.TrodAll enc Try.prog W 0 (fun _ => true) true Try.f7.params.toList args.toList ds p := hA0
  rw [Try.params7] at hA hval
  obtain ⟨v0, v1, d0, d1, p0, p1, rfl, rfl, rfl, h0, h1⟩ := trodAll_two hA
  obtain ⟨rfl, rfl⟩ := trodVars_none hV
  simp only [List.append_nil] at hW'
  have h0k := h0
  have h1k := h1
  have hlt0 : ∀ x ∈ p0, x.block < W.heap.size := fun x hx => hW'.lt x (by simp [hx])
  have hlt1 : ∀ x ∈ p1, x.block < W.heap.size := fun x hx => hW'.lt x (by simp [hx])
  obtain ⟨a0, len0, cap0, rfl⟩ := okWide_slice Try.underlying22 (hval 0 22 v0 rfl rfl)
  obtain ⟨c, rfl⟩ := okWide_int Try.underlying3 (hval 1 3 v1 rfl rfl)
  obtain ⟨_, hf0⟩ := h0
  obtain ⟨_, hf1⟩ := h1
  obtain ⟨ao0, c0, l, e0, s0, b0, g0, m0⟩ := open_itemsN hf0 hlt0
  obtain ⟨c', hc', _, wc⟩ := DataW.trod_int Try.underlying3 hf1
  have hv0 : Value.slice a0 len0 cap0 = .slice ao0 l.length c0 := by simpa [Value.cells] using e0
  have hv1 : c = c' := by simpa [Value.cells] using hc'
  subst hv1
  rw [hv0] at hW' ⊢
  rw [hv0] at h0k
  clear hA0 hval0
  refine (xback_any W ao0 c0 l c (wf_i64 wc).1 (wf_i64 wc).2 s0 b0 (fun i hi => ⟨(g0 i hi).sl, (g0 i hi).lt, (g0 i hi).V⟩) m0).mono fun e W' ⟨he, hw⟩ => ?_
  subst he
  refine ⟨_, rfl, law_post rfl rfl hW' rfl rfl rfl ?_ hw⟩
  exact trodAll_mk2 (Below.trod Try.laidOut (by kernel_rfl) (of_decide_eq_true (by kernel_rfl)) h0k hw hlt0) (Below.trod Try.laidOut (by kernel_rfl) (of_decide_eq_true (by kernel_rfl)) h1k hw hlt1)

theorem xdrBack_holds : Rows.XdrBackSaid :=
  OpenClaim.holds_of_wide 7 Try.f7 rfl rfl rfl rfl rfl rfl rfl ⟨rfl, rfl, rfl, rfl, rfl⟩ rfl rfl rfl rfl rfl (by kernel_rfl) Try.func7 (by kernel_rfl)
    (of_decide_eq_true (by kernel_rfl)) (by unfold Func.isWrapper; first | (rw [if_pos (by decide +kernel)]; kernel_rfl) | (rw [if_neg (by decide +kernel)]; exact ⟨rfl, rfl⟩))
    (fun os started H enc _ => xback_lifted os started H enc)

#print axioms xdrBack_holds
end Go.Proofs.Ytafnialikielkaa
