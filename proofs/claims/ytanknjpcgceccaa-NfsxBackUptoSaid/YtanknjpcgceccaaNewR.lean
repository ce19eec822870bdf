/- xdr.NewReader. (The same as in XLawReads, for a seat without law16.) -/
import Derived.Test.YtanknjpcgceccaaRRead
namespace Go.Proofs.Ytanknjpcgceccaa
open Go.RowKit

/-- A new reader: its bytes are its own. -/
def NRPost (w : World) (bs : List UInt8) (e : Ending) (w' : World) : Prop :=
  ∃ p ao cap, e = .returned (.pointer (some ⟨p, 0, none⟩)) ∧ RD w' p ao cap bs 0 0 ∧ w.heap.size ≤ p ∧ (∀ k, blk ao k → w.heap.size ≤ k ∧ k < w'.heap.size) ∧ Mods (fun _ => False) w w'

set_option maxHeartbeats 400000 in
theorem NewReader_any (ao : Option Addr) (cap : Nat) (bs : List UInt8) (w : World) (hb : SlB w ao cap bs) (hlen : bs.length ≤ 1000000000) :
    Calls Try.prog 21 #[.slice ao bs.length cap] w (NRPost w bs) := by
  have HC := hid (Clone_any ao cap bs w hb hlen)
  clear hb
  go_enter Try.func21, Try.ntmps21
  go_wp2_with fail
  refine HC.out.mono ?_
  rintro e w1 ⟨xo, xc, rfl, ho, hg⟩
  have ho' := hid ho
  have hg' := hid hg
  clear ho hg
  go_wp2
  go_ret
  have hf : ∀ k, blk xo k → w.heap.size ≤ k := fun k hk => (hg'.out.fresh k hk).resolve_left fun h => h
  refine ⟨w1.heap.size, xo, xc, rfl, ⟨⟨113, heap_alloc_new w1 _⟩, ho'.out.sl.alloc _, fun k hk e => ?_, by omega, by omega⟩, hg'.out.mods.size, fun k hk => ⟨hf k hk, Nat.lt_of_lt_of_le (ho'.out.lt k hk) (by simp)⟩, ((hg'.out.mods.mono fun k _ h => h).trans (Mods.alloc _ _ _))⟩
  have := ho'.out.lt k hk.2
  omega

theorem RD.quiet {w w' : World} {r : Nat} {ao : Option Addr} {cap : Nat} {bs : List UInt8} {at_ : Nat} {err : Int} (h : RD w r ao cap bs at_ err) (hq : Quiet w w') : RD w' r ao cap bs at_ err := h.new (hq.mods _)

end Go.Proofs.Ytanknjpcgceccaa
