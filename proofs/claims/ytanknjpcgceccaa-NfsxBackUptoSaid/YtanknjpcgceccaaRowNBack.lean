/- NfsxBack: where the arguments are of bulk at most 1048576, the law returns true, and its arguments read as they did. No other condition. -/
import Derived.Test.YtanknjpcgceccaaLawNBack
import Derived.Test.YtanknjpcgceccaaBulk
import Derived.JoinedCond
namespace Go.Proofs.Ytanknjpcgceccaa
open Go.ChangeShapes Go.WideShapes Go.ChangeAt Go.RowKit

/-- The arguments by which the row is witnessed: all noughts. -/
abbrev noArgs : Array Value := (zeroArgs.cells (.slice none 0 0)).toArray
abbrev noRes : Array Value := (zeroRes.cells (.slice none 0 0) (.slice none 0 0)).toArray

def noArgsD {H : Type} : DataW H := .agg [.lit (.string []), .lit (.string []), .lit (.string []), .lit (.string []), .lit (.string []), .agg [.lit (.bool false), .lit (.bool false), .lit (.bool false), .lit (.bool false), .lit (.int .i64 0), .lit (.int .u32 0), .lit (.int .u32 0), .lit (.int .u64 0), .lit (.int .i64 0), .lit (.int .i64 0), .agg [.lit (.int .u32 0), .lit (.int .u32 0)], .agg [.lit (.int .u32 0), .lit (.int .u32 0)]], .lit (.bool false), .agg [.lit (.int .u32 0), .lit (.int .u32 0)], .lit (.int .u32 0), .lit (.int .u64 0), .lit (.int .u32 0), .lit (.int .i64 0), .lit (.int .i64 0), .lit (.int .i64 0), .nil, .lit (.int .u64 0), .lit (.int .u64 0), .lit (.int .u64 0), .lit (.int .u32 0), .lit (.int .u32 0), .lit (.int .u32 0), .lit (.int .u32 0)]
def noResD {H : Type} : DataW H := .agg [.lit (.int .i64 0), .agg [.lit (.bool false), .agg [.lit (.int .i64 0), .lit (.int .i64 0), .lit (.int .i64 0), .lit (.int .u32 0), .lit (.int .u32 0), .lit (.int .u64 0), .lit (.int .u64 0), .lit (.int .u64 0), .agg [.lit (.int .u32 0), .lit (.int .u32 0)], .agg [.lit (.int .u32 0), .lit (.int .u32 0)], .agg [.lit (.int .u32 0), .lit (.int .u32 0)]]], .agg [.lit (.bool false), .agg [.lit (.int .i64 0), .lit (.int .i64 0), .lit (.int .i64 0), .lit (.int .u32 0), .lit (.int .u32 0), .lit (.int .u64 0), .lit (.int .u64 0), .lit (.int .u64 0), .agg [.lit (.int .u32 0), .lit (.int .u32 0)], .agg [.lit (.int .u32 0), .lit (.int .u32 0)], .agg [.lit (.int .u32 0), .lit (.int .u32 0)]]], .agg [.lit (.bool false), .lit (.int .u64 0), .agg [.lit (.int .u32 0), .lit (.int .u32 0)], .agg [.lit (.int .u32 0), .lit (.int .u32 0)]], .agg [.lit (.bool false), .lit (.int .u64 0), .agg [.lit (.int .u32 0), .lit (.int .u32 0)], .agg [.lit (.int .u32 0), .lit (.int .u32 0)]], .agg [.lit (.bool false), .agg [.lit (.int .i64 0), .lit (.int .i64 0), .lit (.int .i64 0), .lit (.int .u32 0), .lit (.int .u32 0), .lit (.int .u64 0), .lit (.int .u64 0), .lit (.int .u64 0), .agg [.lit (.int .u32 0), .lit (.int .u32 0)], .agg [.lit (.int .u32 0), .lit (.int .u32 0)], .agg [.lit (.int .u32 0), .lit (.int .u32 0)]]], .agg [.lit (.bool false), .agg [.lit (.int .i64 0), .lit (.int .i64 0), .lit (.int .i64 0), .lit (.int .u32 0), .lit (.int .u32 0), .lit (.int .u64 0), .lit (.int .u64 0), .lit (.int .u64 0), .agg [.lit (.int .u32 0), .lit (.int .u32 0)], .agg [.lit (.int .u32 0), .lit (.int .u32 0)], .agg [.lit (.int .u32 0), .lit (.int .u32 0)]]], .lit (.bool false), .lit (.string []), .lit (.int .u32 0), .lit (.string []), .lit (.int .u32 0), .lit (.bool false), .nil, .lit (.int .i64 0), .lit (.int .u64 0), .lit (.int .u64 0), .nil, .lit (.int .u64 0), .lit (.int .u64 0), .lit (.int .u64 0), .lit (.int .u64 0)]
theorem sum_mem {α : Type} (f : α → Nat) {l : List α} {a : α} (h : a ∈ l) : f a ≤ (l.map f).sum := by
  induction l with
  | nil => cases h
  | cons b r ih =>
    rw [List.map_cons, List.sum_cons]
    rcases List.mem_cons.1 h with rfl | h
    · omega
    · have := ih h; omega

set_option maxRecDepth 100000 in
theorem back_lifted (os : Os) (started : os.Started) (H : Type) (enc : TypeId × Value → H) (F : Stop.Interp) :
    ReturnsInHanded {} Try.checked os 6 .any ((Rows.OpenSpec.upto Rows.nfsxBackSpec).pre6 enc Try.prog Try.f6 Rows.nfsxBackUptoRow.domain false) (((Rows.OpenSpec.upto Rows.nfsxBackSpec).at F).post enc Try.prog Try.f6 false true false false) := by
  refine returnsInHanded_of_cond (C := Try.checked) (s := Rows.OpenSpec.upto Rows.nfsxBackSpec) (k := Rows.uptoSmall) rfl Try.own started (by kernel_rfl) Try.func6
    (OpenSpec.witness (enc := enc) (C := Try.checked) (s := Rows.OpenSpec.upto Rows.nfsxBackSpec) (k := Rows.uptoSmall) rfl false ⟨#[], #[.int .i64 0, .agg noArgs, .agg noRes, .slice none 0 0], []⟩ 8 (by kernel_rfl) (by kernel_rfl) (by kernel_rfl)
      (x := ([.lit (.int .i64 0), noArgsD, noResD, .nil], [], [])) (by kernel_rfl) rfl (by kernel_rfl)) ?_
  intro W base args ds gs before hval0 hW _ hk0 _
  have hval : ∀ (j : Nat) t v, Try.f6.params[j]? = some t → args[j]? = some v → Value.okWide Try.prog W .any base t v := hval0
  have hW' := hW
  obtain ⟨p, q, hA0, hV, rfl, hfz, hnd⟩ := hW
  have hA : DataW.TrodAll enc Try.prog W 0 (fun _ => true) true Try.f6.params.toList args.toList ds p := hA0
  rw [Try.params6] at hA hval
  obtain ⟨v0, v1, v2, v3, d0, d1, d2, d3, p0, p1, p2, p3, rfl, rfl, rfl, h0, h1, h2, h3⟩ := trodAll_four hA
  obtain ⟨rfl, rfl⟩ := trodVars_none hV
  simp only [List.append_nil] at hW' hk0
  have hk : Rows.uptoBulkAll [d0, d1, d2, d3] ≤ 1048576 := of_decide_eq_true hk0
  simp only [Rows.uptoBulkAll] at hk
  have h0k := h0
  have h1k := h1
  have h2k := h2
  have h3k := h3
  have hlt0 : ∀ x ∈ p0, x.block < W.heap.size := fun x hx => hW'.lt x (by simp [hx])
  have hlt1 : ∀ x ∈ p1, x.block < W.heap.size := fun x hx => hW'.lt x (by simp [hx])
  have hlt2 : ∀ x ∈ p2, x.block < W.heap.size := fun x hx => hW'.lt x (by simp [hx])
  have hlt3 : ∀ x ∈ p3, x.block < W.heap.size := fun x hx => hW'.lt x (by simp [hx])
  obtain ⟨k, rfl⟩ := okWide_int Try.underlying3 (hval 0 3 v0 rfl rfl)
  obtain ⟨A, rfl, _⟩ := okWide_struct Try.underlying30 (hval 1 30 v1 rfl rfl)
  obtain ⟨R, rfl, _⟩ := okWide_struct Try.underlying42 (hval 2 42 v2 rfl rfl)
  obtain ⟨so, sl, sc, rfl⟩ := okWide_slice Try.underlying22 (hval 3 22 v3 rfl rfl)
  obtain ⟨_, hf1⟩ := h1
  obtain ⟨_, hf2⟩ := h2
  obtain ⟨_, hf3⟩ := h3
  obtain ⟨x, ao, ac, ea, sa, ba, la, ga⟩ := open_ArgsV hf1 hlt1
  obtain ⟨r, ro, rc, eo, ec, er, sr, br, ser, ber, lr, ler, gr⟩ := open_ResV hf2 hlt2
  obtain ⟨so', sc', bs, e1, sb, lb, _⟩ := open_bytes Try.underlying22 Try.underlying5 (by kernel_rfl) hf3 hlt3
  have hf1' := hf1
  rw [ea] at hf1'
  obtain ⟨z0, z1, z2, z3, z4, z5⟩ := bulk_ArgsV hf1'
  have hf2' := hf2
  rw [er] at hf2'
  obtain ⟨y0, y1, y2, y3, y4⟩ := bulk_ResV hf2' ser
  have e1' : Value.slice so sl sc = .slice so' bs.length sc' := by
    have h := e1
    simp only [Value.cells] at h
    exact List.singleton_inj.1 h
  have ea' : A = (x.cells (.slice ao x.data.length ac)).toArray := by rw [← ea]; simp [Value.cells]
  have er' : R = (r.cells (.slice ro r.data.length rc) (.slice eo r.entries.length ec)).toArray := by rw [← er]; simp [Value.cells]
  rw [e1', ea', er']
  clear hA0 hval0
  simp only at z0 z1 z2 z3 z4 z5 y0 y1 y2 y3 y4
  have hent : ∀ e ∈ r.entries, e.name.length ≤ 1048576 ∧ e.handle.length ≤ 1048576 := fun e he => by
    have h : e.name.length + e.handle.length ≤ (r.entries.map fun e => e.name.length + e.handle.length).sum := sum_mem (fun e : EntryV => e.name.length + e.handle.length) he
    exact ⟨by omega, by omega⟩
  refine (nfsxBack_any k x ao ac r ro rc eo ec so' sc' bs W sb sa ba sr br ser ga gr (by omega) (by omega) (by omega) (by omega) (by omega) (by omega) (by omega) (by omega) (by omega) (by omega) (by omega) hent).mono fun e W' ⟨he, hm⟩ => ?_
  have hw : Below W.heap.size W W' := hm.below (fun _ _ h => h) (Nat.le_refl _)
  subst he
  rw [← e1', ← ea', ← er']
  refine ⟨_, rfl, law_post rfl rfl hW' rfl rfl rfl ?_ hw⟩
  have := trodAll_mk4 (Below.trod Try.laidOut (by kernel_rfl) (of_decide_eq_true (by kernel_rfl)) h0k hw hlt0) (Below.trod Try.laidOut (by kernel_rfl) (of_decide_eq_true (by kernel_rfl)) h1k hw hlt1)
    (Below.trod Try.laidOut (by kernel_rfl) (of_decide_eq_true (by kernel_rfl)) h2k hw hlt2) (Below.trod Try.laidOut (by kernel_rfl) (of_decide_eq_true (by kernel_rfl)) h3k hw hlt3)
  simp only [List.append_assoc]
  exact this

theorem nfsxBack_holds : Rows.NfsxBackUptoSaid :=
  OpenClaim.holds_of_cond 6 Try.f6 rfl rfl rfl rfl rfl rfl rfl ⟨rfl, rfl, rfl, rfl, rfl⟩ rfl rfl rfl rfl rfl (by kernel_rfl) Try.func6 (by kernel_rfl)
    (of_decide_eq_true (by kernel_rfl)) (by unfold Func.isWrapper; first | (rw [if_pos (by decide +kernel)]; kernel_rfl) | (rw [if_neg (by decide +kernel)]; exact ⟨rfl, rfl⟩))
    (fun os started H enc _ F => back_lifted os started H enc F)

#print axioms nfsxBack_holds
end Go.Proofs.Ytanknjpcgceccaa
