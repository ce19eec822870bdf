/- A region that draws its order: what is left of it is quiet; a walk in an order of one's own. No program. -/
import Derived.Test.YtanknjpcgceccaaMid
import Derived.OrdersHeld
namespace Go.Proofs.Ytanknjpcgceccaa

section
variable {P : Program} {ops : Array Oper} {md : Region.Mode} {C S : World → Prop}

def seqB (md : Region.Mode) (ops : Array Oper) : List Nat → Array Bool → Bool
  | [], listed => (Region.ready md ops listed).isEmpty
  | k :: ks, listed => (Region.ready md ops listed).contains k && Region.free md ops listed k && seqB md ops ks (listed.setIfInBounds k true)

/-- The operations ks, in this order. -/
def opsOf (l : List Oper) : List Nat → List Oper
  | [] => []
  | k :: ks => match l[k]? with
    | some o => o :: opsOf l ks
    | none => []

theorem wpAnyQ_seq {Q : Act → Prop} {l : List Oper} (hs : Region.noSelect l.toArray = true) : ∀ (ks : List Nat) (listed : Array Bool) (a : Act), (∀ k ∈ ks, k < l.length) →
    seqB md l.toArray ks listed = true → wpQuiet P l.toArray C Q (opsOf l ks) a → wpAnyQ P md l.toArray C Q ks.length listed a
  | [], _, _, _, hB, h => ⟨by simpa [seqB] using hB, h⟩
  | k :: ks, listed, a, hk, hB, h => by
    have hkl := hk k (by simp)
    have hl : l[k]? = some l[k] := List.getElem?_eq_getElem hkl
    have h0 : l.toArray[k]? = some l[k] := by simp [hl]
    simp only [seqB, Bool.and_eq_true] at hB
    obtain ⟨⟨hr, hf⟩, hB'⟩ := hB
    have h1 : opsOf l (k :: ks) = l[k] :: opsOf l ks := by simp only [opsOf, hl]
    rw [h1] at h
    have hst : qOp P l.toArray C k (wpQuiet P l.toArray C Q (opsOf l ks)) a := by unfold qOp; simp only [h0]; exact h
    obtain ⟨v, hy, hK⟩ := yieldsIn_of_qOp h0 hst
    exact wpAnyQ_first h0 (Region.noSelect_spec hs) ks.length listed a (Region.free_spec h0 hf) (by simpa using hr) hy
      (wpAnyQ_seq hs ks _ _ (fun j hj => hk j (by simp [hj])) hB' hK)

theorem wpAnyH_of_quiet {Q : Act → Prop} {Q' : Exit → Act → World → Prop} (hQ : ∀ a w, C w → Q a → Q' .normal a w) (hS : ∀ w, C w → S w) : ∀ (fuel : Nat) (listed : Array Bool) (a : Act) (w : World), C w →
    wpAnyQ P md ops C Q fuel listed a → wpAnyH P md ops Q' S fuel listed a w
  | 0, _, _, _, hw, h => ⟨h.1, hQ _ _ hw h.2⟩
  | fuel + 1, _, _, _, hw, h => ⟨fun h0 => hQ _ _ hw (h.1 h0), fun i hi => wpOp_of_qOp hw (fun a' w' hw' h' => ⟨hS w' hw', wpAnyH_of_quiet hQ hS fuel _ a' w' hw' h'⟩) (h.2 i hi)⟩

/-- What is left, the operations ks in this order, only reads. -/
theorem wpAnyH_quiet_seq {l : List Oper} (ks : List Nat) {Q : Exit → Act → World → Prop} {fuel : Nat} {listed : Array Bool} {a : Act} {w : World}
    (hs : Region.noSelect l.toArray = true) (hf : ks.length = fuel) (hk : (ks.all fun k => decide (k < l.length)) = true) (hB : seqB .any l.toArray ks listed = true) (hS : ∀ n, S (w.drewN n))
    (h : wpQuiet P l.toArray (fun w' => ∃ n, w' = w.drewN n) (fun a' => ∀ w', (∃ n, w' = w.drewN n) → Q .normal a' w') (opsOf l ks) a) : wpAnyH P .any l.toArray Q S fuel listed a w := by
  subst hf
  refine wpAnyH_of_quiet (C := fun w' => ∃ n, w' = w.drewN n) (Q := fun a' => ∀ w', (∃ n, w' = w.drewN n) → Q .normal a' w') (fun _ w' hw' h => h w' hw') (fun w' hw' => by obtain ⟨n, rfl⟩ := hw'; exact hS n) _ _ _ _ ⟨0, rfl⟩ ?_
  exact wpAnyQ_seq hs ks listed a (fun k hk' => by simpa using List.all_eq_true.1 hk k hk') hB h
end

end Go.Proofs.Ytanknjpcgceccaa
