/- The reference's In: its state, u32, upto, text. -/
import Derived.Test.YtanknjpcgceccaaGen10
import Derived.Test.YtanknjpcgceccaaRReader3
namespace Go.Proofs.Ytanknjpcgceccaa
open Go.RowKit

/-- An In at block c that reads through the reader at block r. -/
structure IW (w : World) (c r : Nat) (ao : Option Addr) (cap : Nat) (inp : List UInt8) (pos : Nat) (err : Int) (bad : Bool) : Prop where
  obj : w.heap[c]? = some (.cells #[.pointer (some ⟨r, 0, none⟩), .bool bad] 77 (0, 0))
  rd : RD w r ao cap inp pos err
  ne : c ≠ r
  sep : ∀ k, rb ao inp.length k → k ≠ c
section
variable {w : World} {c r : Nat} {ao : Option Addr} {cap : Nat} {inp : List UInt8} {pos : Nat} {err : Int} {bad : Bool}
theorem IW.lt (h : IW w c r ao cap inp pos err bad) : c < w.heap.size := lt_of_heap h.obj
theorem IW.c0 (h : IW w c r ao cap inp pos err bad) : w.cell? ⟨c, 0, none⟩ = some (.pointer (some ⟨r, 0, none⟩)) := by simp [World.cell?, h.obj]
theorem IW.c1 (h : IW w c r ao cap inp pos err bad) : w.cell? ⟨c, 1, none⟩ = some (.bool bad) := by simp [World.cell?, h.obj]
theorem IW.f1 (h : IW w c r ao cap inp pos err bad) : w.frozen? ⟨c, 1, none⟩ = false := by simp [World.frozen?, h.obj]
theorem IW.keep {w' : World} (h : IW w c r ao cap inp pos err bad) {G : Nat → Prop} (hm : Mods G w w') (hF : ∀ k, FR c r ao inp.length k → ¬ G k) : IW w' c r ao cap inp pos err bad :=
  ⟨hm.obj h.obj (hF c (.inl rfl)), h.rd.keep hm (hF r (.inr (.inl rfl))) (fun k hk => hF k (.inr (.inr hk))), h.ne, h.sep⟩
theorem IW.set1 (h : IW w c r ao cap inp pos err bad) (b : Bool) : IW (w.setCell ⟨c, 1, none⟩ (.bool b)) c r ao cap inp pos err b := by
  have hm : Mods (fun k => k = c) w (w.setCell ⟨c, 1, none⟩ (.bool b)) := Mods.setCell (F := fun k => k = c) (a := ⟨c, 1, none⟩) rfl _
  refine ⟨?_, h.rd.keep hm (fun e => h.ne e.symm) fun k hk e => h.sep k hk e, h.ne, h.sep⟩
  simp [World.setCell, Array.getElem?_modify, h.obj]
theorem IW.read {w' : World} {pos' : Nat} {err' : Int} (h : IW w c r ao cap inp pos err bad) (hr : RD w' r ao cap inp pos' err') (hm : Mods (fun k => k = r) w w') : IW w' c r ao cap inp pos' err' bad :=
  ⟨hm.obj h.obj h.ne, hr, h.ne, h.sep⟩
end

/-- The In at block c is at s. -/
def IAt (w : World) (c r : Nat) (ao : Option Addr) (cap : Nat) (inp : List UInt8) (s : St) : Prop := ∃ pos err bad, s = .rd inp pos err bad ∧ IW w c r ao cap inp pos err bad
section
variable {w w' : World} {c r : Nat} {ao : Option Addr} {cap : Nat} {inp : List UInt8} {s : St}
theorem IAt.c0 (h : IAt w c r ao cap inp s) : w.cell? ⟨c, 0, none⟩ = some (.pointer (some ⟨r, 0, none⟩)) := by obtain ⟨_, _, _, _, h⟩ := h; exact h.c0
theorem IAt.keep (h : IAt w c r ao cap inp s) {G : Nat → Prop} (hm : Mods G w w') (hF : ∀ k, FR c r ao inp.length k → ¬ G k) : IAt w' c r ao cap inp s := by
  obtain ⟨pos, err, bad, hs, h⟩ := h
  exact ⟨pos, err, bad, hs, h.keep hm hF⟩
theorem IAt.lt (h : IAt w c r ao cap inp s) : ∀ k, FR c r ao inp.length k → k < w.heap.size := by
  obtain ⟨pos, err, bad, hs, h⟩ := h
  rintro k (rfl | rfl | hk)
  · exact h.lt
  · exact h.rd.lt
  · exact h.rd.rb_lt _ hk
end
def FI (c r : Nat) : Nat → Prop := fun k => k = c ∨ k = r
/-- What a call leaves. -/
def IQ (w : World) (c r : Nat) (ao : Option Addr) (cap : Nat) (inp : List UInt8) (v : Value) (s : St) (e : Ending) (w' : World) : Prop := e = .returned v ∧ Hid (IAt w' c r ao cap inp s) ∧ Hid (Mods (FI c r) w w')

section
variable {w : World} {c r : Nat} {ao : Option Addr} {cap : Nat} {inp : List UInt8} {s : St}
/-- The reader's calls, as a state. -/
theorem IAt.u32 (h : IAt w c r ao cap inp s) (v : Int) : Calls Try.prog 64 #[.pointer (some ⟨r, 0, none⟩)] w (IQ w c r ao cap inp (.int .u32 (s.num 4 v).1) (s.num 4 v).2) := by
  obtain ⟨pos, err, bad, rfl, h⟩ := h
  refine (RRU32_any r ao cap inp pos err w h.rd).mono ?_
  rintro e w' ⟨rfl, h1, h2⟩
  exact ⟨rfl, ⟨_, _, _, rfl, h.read h1 h2⟩, h2.mono fun _ _ h => .inr h⟩
theorem IAt.u64 (h : IAt w c r ao cap inp s) (v : Int) : Calls Try.prog 31 #[.pointer (some ⟨r, 0, none⟩)] w (IQ w c r ao cap inp (.int .u64 (s.num 8 v).1) (s.num 8 v).2) := by
  obtain ⟨pos, err, bad, rfl, h⟩ := h
  refine (RRU64_any r ao cap inp pos err w h.rd).mono ?_
  rintro e w' ⟨rfl, h1, h2⟩
  exact ⟨rfl, ⟨_, _, _, rfl, h.read h1 h2⟩, h2.mono fun _ _ h => .inr h⟩
theorem IAt.bool (h : IAt w c r ao cap inp s) (v : Bool) : Calls Try.prog 28 #[.pointer (some ⟨r, 0, none⟩)] w (IQ w c r ao cap inp (.bool (s.truth v).1) (s.truth v).2) := by
  obtain ⟨pos, err, bad, rfl, h⟩ := h
  refine (RRBool_any r ao cap inp pos err w h.rd).mono ?_
  rintro e w' ⟨rfl, h1, h2⟩
  exact ⟨rfl, ⟨_, _, _, rfl, h.read h1 h2⟩, h2.mono fun _ _ h => .inr h⟩
/-- Bytes that are read lie in a block of their own. -/
theorem IAt.bytes (h : IAt w c r ao cap inp s) (xs : List UInt8) (most : Int) (hm : -9223372036854775808 ≤ most ∧ most ≤ 9223372036854775807) : Calls Try.prog 33 #[.pointer (some ⟨r, 0, none⟩), .int .i64 most] w
    (fun e w' => ∃ xo xc, IQ w c r ao cap inp (.slice xo (s.row most xs).1.length xc) (s.row most xs).2 e w' ∧ Hid (SlB w' xo xc (s.row most xs).1) ∧ Hid (∀ k, blk xo k → w.heap.size ≤ k ∧ k < w'.heap.size)) := by
  obtain ⟨pos, err, bad, rfl, h⟩ := h
  refine (RRBytes_any most r ao cap inp pos err w h.rd hm).mono ?_
  rintro e w' ⟨xo, xc, rfl, h0, h3, h1, h2⟩
  exact ⟨xo, xc, ⟨rfl, ⟨_, _, _, rfl, h.read h1 h2⟩, h2.mono fun _ _ h => .inr h⟩, h0.sl, fun k hk => ⟨h3 k hk, h0.lt k hk⟩⟩
end

theorem u32_in (c r : Nat) (ao : Option Addr) (cap : Nat) (inp : List UInt8) (s : St) (u : Int) (w : World) (h : IAt w c r ao cap inp s) :
    Calls Try.prog 30 #[.pointer (some ⟨c, 0, none⟩)] w (IQ w c r ao cap inp (.int .u32 (s.num 4 u).1) (s.num 4 u).2) := by
  have hc := h.c0
  have D := hid (h.u32 u)
  clear h
  generalize s.num 4 u = q at D ⊢
  obtain ⟨v, s'⟩ := q
  go_enter Try.func30, Try.ntmps30
  go_wp2_with fail
  refine D.out.mono ?_
  rintro e w1 ⟨rfl, q1, q2⟩
  clear D hc
  go_wp2
  go_ret
  exact ⟨rfl, q1, q2⟩

theorem text_in (c r : Nat) (ao : Option Addr) (cap : Nat) (inp : List UInt8) (s : St) (xs : List UInt8) (most : Int) (hm : -9223372036854775808 ≤ most ∧ most ≤ 9223372036854775807) (w : World) (h : IAt w c r ao cap inp s) :
    Calls Try.prog 25 #[.pointer (some ⟨c, 0, none⟩), .int .i64 most] w (IQ w c r ao cap inp (.string (str (s.row most xs).1)) (s.row most xs).2) := by
  have hc := h.c0
  have D := hid (h.bytes xs most hm)
  clear h hm
  generalize s.row most xs = q at D ⊢
  obtain ⟨bs, s'⟩ := q
  go_enter Try.func25, Try.ntmps25
  go_wp2_with fail
  refine D.out.mono ?_
  rintro e w1 ⟨xo, xc, ⟨rfl, q1, q2⟩, q3, q4⟩
  have hconv := run_conv q3.out
  clear D hc
  go_wp2
  go_ret
  exact ⟨rfl, q1, q2⟩

set_option maxHeartbeats 1000000 in
theorem upto_in (c r : Nat) (ao : Option Addr) (cap : Nat) (inp : List UInt8) (s : St) (u : Int) (lo hi : Int) (w : World) (h : IAt w c r ao cap inp s) :
    Calls Try.prog 32 #[.pointer (some ⟨c, 0, none⟩), .int .u32 lo, .int .u32 hi] w (IQ w c r ao cap inp (.int .i64 (s.number lo hi u).1) (s.number lo hi u).2) := by
  have hc := h.c0
  have hsn : s.number lo hi u = ((s.num 4 0).1, (s.num 4 0).2.must (decide (lo ≤ (s.num 4 0).1 ∧ (s.num 4 0).1 ≤ hi))) := by
    obtain ⟨pos, err, bad, rfl, _⟩ := h
    rfl
  rw [hsn]
  have D := hid (h.u32 0)
  have hr : 0 ≤ (s.num 4 0).1 ∧ (s.num 4 0).1 < 4294967296 := by
    obtain ⟨pos, err, bad, rfl, _⟩ := h
    have := rnum4_lt inp pos err
    simp only [St.num]
    omega
  clear h hsn
  generalize s.num 4 0 = q at D hr ⊢
  obtain ⟨v, s'⟩ := q
  simp only at hr
  have hr0 := hr.1; have hr1 := hr.2
  go_enter Try.func32, Try.ntmps32
  go_wp2_with fail
  refine D.out.mono ?_
  rintro e w1 ⟨rfl, q1, q2⟩
  obtain ⟨pos, err, bad, hs, h1⟩ := q1.out
  have hs' : s' = .rd inp pos err bad := hs
  clear hs
  subst hs'
  have hc1 := h1.c1; have hf1 := h1.f1
  obtain ⟨b0, hb0⟩ : ∃ b0, b0 = (bad || !decide (lo ≤ v ∧ v ≤ hi)) := ⟨_, rfl⟩
  have HQ1 : Hid (IAt (w1.setCell ⟨c, 1, none⟩ (.bool b0)) c r ao cap inp ((St.rd inp pos err bad).must (decide (lo ≤ v ∧ v ≤ hi)))) := ⟨pos, err, b0, by rw [hb0]; rfl, h1.set1 b0⟩
  have HQ2 : Hid (Mods (FI c r) w (w1.setCell ⟨c, 1, none⟩ (.bool b0))) := q2.out.trans ((Mods.setCell (F := fun k => k = c) (a := ⟨c, 1, none⟩) rfl _).mono fun _ _ e => .inl e)
  have hcase : (bad = true ∧ b0 = true) ∨ (bad = false ∧ v < lo ∧ b0 = true) ∨ (bad = false ∧ ¬ v < lo ∧ hi < v ∧ b0 = true) ∨ (bad = false ∧ ¬ v < lo ∧ ¬ hi < v ∧ b0 = false) := by
    cases bad
    · by_cases h1 : v < lo
      · exact .inr (.inl ⟨rfl, h1, by rw [hb0, decide_eq_false (by omega)]; rfl⟩)
      · by_cases h2 : hi < v
        · exact .inr (.inr (.inl ⟨rfl, h1, h2, by rw [hb0, decide_eq_false (by omega)]; rfl⟩))
        · exact .inr (.inr (.inr ⟨rfl, h1, h2, by rw [hb0, decide_eq_true (by omega)]; rfl⟩))
    · exact .inl ⟨rfl, by rw [hb0]; rfl⟩
  clear D hc q1 q2 h1 hb0
  rcases hcase with ⟨rfl, rfl⟩ | ⟨rfl, h1, rfl⟩ | ⟨rfl, h1, h2, rfl⟩ | ⟨rfl, h1, h2, rfl⟩
  all_goals
    go_wp2
    go_ret
    first
      | exact ⟨rfl, HQ1, HQ2⟩
      | (rw [show decide (v < lo) = false from decide_eq_false (by omega), show decide (hi < v) = false from decide_eq_false (by omega)]; exact ⟨rfl, HQ1, HQ2⟩)
      | (rw [show decide (v < lo) = false from decide_eq_false (by omega), show decide (hi < v) = true from decide_eq_true (by omega)]; exact ⟨rfl, HQ1, HQ2⟩)
      | (rw [show decide (v < lo) = true from decide_eq_true (by omega)]; exact ⟨rfl, HQ1, HQ2⟩)

end Go.Proofs.Ytanknjpcgceccaa
