/- nfsx's coder, where it writes: must, u32, u64, truth. -/
import Derived.Test.YtanknjpcgceccaaWriter
import Derived.Test.YtanknjpcgceccaaMid
import Derived.OrdersHeld
import Derived.Deep.RegionHeld3
namespace Go.Proofs.Ytanknjpcgceccaa
open Go.RowKit

/-- A coder at block c that writes through the writer at block p. -/
structure CW (w : World) (c p : Nat) (ao : Option Addr) (cap : Nat) (bad : Bool) (bs : List UInt8) : Prop where
  obj : w.heap[c]? = some (.cells #[.pointer none, .pointer (some ⟨p, 0, none⟩), .bool bad] 69 (0, 0))
  wr : WR w p ao cap bs
  ne : c ≠ p
  sep : ¬ blk ao c

theorem WR.new2 {w w' : World} {p : Nat} {ao : Option Addr} {cap : Nat} {bs : List UInt8} (h : WR w p ao cap bs) (hm : Mods (fun _ => False) w w') : WR w' p ao cap bs := h.keep hm (fun h => h) fun _ _ h => h

section
variable {w : World} {c p : Nat} {ao : Option Addr} {cap : Nat} {bad : Bool} {bs : List UInt8}
theorem CW.lt (h : CW w c p ao cap bad bs) : c < w.heap.size := lt_of_heap h.obj
theorem CW.c0 (h : CW w c p ao cap bad bs) : w.cell? ⟨c, 0, none⟩ = some (.pointer none) := by simp [World.cell?, h.obj]
theorem CW.c1 (h : CW w c p ao cap bad bs) : w.cell? ⟨c, 1, none⟩ = some (.pointer (some ⟨p, 0, none⟩)) := by simp [World.cell?, h.obj]
theorem CW.c2 (h : CW w c p ao cap bad bs) : w.cell? ⟨c, 2, none⟩ = some (.bool bad) := by simp [World.cell?, h.obj]
theorem CW.f2 (h : CW w c p ao cap bad bs) : w.frozen? ⟨c, 2, none⟩ = false := by simp [World.frozen?, h.obj]
theorem CW.keep {w' : World} (h : CW w c p ao cap bad bs) {F : Nat → Prop} (hm : Mods F w w') (hc : ¬ F c) (hp : ¬ F p) (hF : ∀ k, blk ao k → ¬ F k) : CW w' c p ao cap bad bs :=
  ⟨hm.obj h.obj hc, h.wr.keep hm hp hF, h.ne, h.sep⟩
theorem CW.new {w' : World} (h : CW w c p ao cap bad bs) (hm : Mods (fun _ => False) w w') : CW w' c p ao cap bad bs := h.keep hm (fun h => h) (fun h => h) fun _ _ h => h
theorem CW.set2 (h : CW w c p ao cap bad bs) (b : Bool) : CW (w.setCell ⟨c, 2, none⟩ (.bool b)) c p ao cap b bs := by
  have hm : Mods (fun k => k = c) w (w.setCell ⟨c, 2, none⟩ (.bool b)) := Mods.setCell (F := fun k => k = c) (a := ⟨c, 2, none⟩) rfl _
  refine ⟨?_, h.wr.keep hm (fun e => h.ne e.symm) fun k hk e => h.sep (e ▸ hk), h.ne, h.sep⟩
  simp [World.setCell, Array.getElem?_modify, h.obj]
/-- Behind a writer's call. -/
theorem CW.wrote {w' : World} {ao' : Option Addr} {cap' : Nat} {bs' : List UInt8} (h : CW w c p ao cap bad bs) (hw : WR w' p ao' cap' bs') (hg : WGrew w p ao w' ao') : CW w' c p ao' cap' bad bs' :=
  ⟨hg.mods.obj h.obj fun e => by
    rcases e with e | e
    · exact h.ne e
    · exact h.sep e, hw, h.ne, fun hk => by
    rcases hg.fresh c hk with e | e
    · exact h.sep e
    · have := h.lt; omega⟩
end

/-- What a coder's call may change of what was there: the writer, its bytes, the coder itself. -/
def FC (c p : Nat) (ao : Option Addr) : Nat → Prop := fun k => k = c ∨ k = p ∨ blk ao k
structure CGrew (w : World) (c p : Nat) (ao : Option Addr) (w' : World) (ao' : Option Addr) : Prop where
  mods : Mods (FC c p ao) w w'
  fresh : ∀ k, blk ao' k → blk ao k ∨ w.heap.size ≤ k
theorem CGrew.refl (w : World) (c p : Nat) (ao : Option Addr) : CGrew w c p ao w ao := ⟨Mods.refl _ _, fun _ h => .inl h⟩
theorem WGrew.c {w w' : World} {c p : Nat} {ao ao' : Option Addr} (h : WGrew w p ao w' ao') : CGrew w c p ao w' ao' := ⟨h.mods.mono fun _ _ h => .inr h, h.fresh⟩
theorem CGrew.trans {w w1 w2 : World} {c p : Nat} {a a1 a2 : Option Addr} (h : CGrew w c p a w1 a1) (g : CGrew w1 c p a1 w2 a2) : CGrew w c p a w2 a2 := by
  refine ⟨h.mods.step g.mods fun k hk hb => ?_, fun k hk => ?_⟩
  · rcases hb with rfl | rfl | hb
    · exact .inl rfl
    · exact .inr (.inl rfl)
    · rcases h.fresh k hb with h | h
      · exact .inr (.inr h)
      · omega
  · rcases g.fresh k hk with h1 | h1
    · exact h.fresh k h1
    · exact .inr (Nat.le_trans h.mods.size h1)
theorem CGrew.new {w w1 w2 : World} {c p : Nat} {a a1 : Option Addr} (h : CGrew w c p a w1 a1) (g : Mods (fun _ => False) w1 w2) : CGrew w c p a w2 a1 := ⟨h.mods.step g fun _ _ h => h.elim, h.fresh⟩
/-- A block that is none of the coder's. -/
theorem CGrew.apart {w w' : World} {c p : Nat} {ao ao' : Option Addr} (h : CGrew w c p ao w' ao') {k : Nat} (hk : ¬ FC c p ao k) (hlt : k < w.heap.size) : ¬ FC c p ao' k := fun hf => by
  rcases hf with e | e | e
  · exact hk (.inl e)
  · exact hk (.inr (.inl e))
  · rcases h.fresh k e with e | e
    · exact hk (.inr (.inr e))
    · omega

/-- What a coder's call that writes leaves. -/
def CPost (w : World) (c p : Nat) (ao : Option Addr) (v : Value) (bad : Bool) (bs : List UInt8) (e : Ending) (w' : World) : Prop :=
  ∃ ao' cap', e = .returned v ∧ CW w' c p ao' cap' bad bs ∧ CGrew w c p ao w' ao'

theorem must_any (c p : Nat) (ao : Option Addr) (cap : Nat) (bad is : Bool) (bs : List UInt8) (w : World) (h : CW w c p ao cap bad bs) :
    Calls Try.prog 70 #[.pointer (some ⟨c, 0, none⟩), .bool is] w (CPost w c p ao (.tuple #[]) (bad || !is) bs) := by
  have h2 := h.c2
  have hz := h.f2
  have hfin := hid (h.set2 (bad || !is))
  have hm := hid (Mods.setCell (F := FC c p ao) (w := w) (a := ⟨c, 2, none⟩) (.inl rfl) (.bool (bad || !is)))
  clear h
  cases bad <;> cases is
  all_goals
    go_enter Try.func70, Try.ntmps70
    go_wp2
    go_end0
    exact ⟨ao, cap, rfl, hfin.out, hm.out, fun _ h => .inl h⟩

end Go.Proofs.Ytanknjpcgceccaa
