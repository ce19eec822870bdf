/- A region that draws its order: from the middle on its operations are quiet. No program. -/
import Derived.Deep.QuietTactic
import Derived.BigQuiet
import Derived.Deep.RegionWith
namespace Go.Proofs.Ytanknjpcgceccaa

/-- What is left of a region, from operation k on, is quiet: one walk in the text's order. -/
theorem wpAny_quiet_from {P : Program} {l : List Oper} (k : Nat) {Q : Exit → Act → World → Prop} {fuel : Nat} {listed : Array Bool} {a : Act} {w : World}
    (hs : Region.noSelect l.toArray = true) (hf : (l.drop k).length = fuel) (hB : Region.lexFrom .any l.toArray (l.drop k).length k listed = true)
    (h : wpQuiet P l.toArray (fun w' => ∃ n, w' = w.drewN n) (fun a' => ∀ w', (∃ n, w' = w.drewN n) → Q .normal a' w') (l.drop k) a) : wpAny P .any l.toArray Q fuel listed a w := by
  subst hf
  refine wpAny_of_quiet (C := fun w' => ∃ n, w' = w.drewN n) (Q := fun a' => ∀ w', (∃ n, w' = w.drewN n) → Q .normal a' w') (fun _ w' hw' h => h w' hw') _ _ _ _ ⟨0, rfl⟩ ?_
  exact wpAnyQ_lex hs (l.drop k) k listed a (by simp) hB h

end Go.Proofs.Ytanknjpcgceccaa
