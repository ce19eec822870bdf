/- nfsx's coder, whether it reads or writes: its state, what a call leaves. -/
import Derived.Test.YtanknjpcgceccaaCoder
import Derived.Test.YtanknjpcgceccaaReadB
import Derived.Test.YtanknjpcgceccaaApi
namespace Go.Proofs.Ytanknjpcgceccaa
open Go.RowKit

/-- A coder that reads, through the reader at block r. -/
structure CR (w : World) (c r : Nat) (ao : Option Addr) (cap : Nat) (inp : List UInt8) (pos : Nat) (err : Int) (bad : Bool) : Prop where
  obj : w.heap[c]? = some (.cells #[.pointer (some ⟨r, 0, none⟩), .pointer none, .bool bad] 69 (0, 0))
  rd : RD w r ao cap inp pos err
  ne : c ≠ r
  sep : ∀ k, rb ao inp.length k → k ≠ c

/-- What a coder is at: written so far; or the bytes, the place, the first error. -/
inductive St where
  | wr (bad : Bool) (out : List UInt8)
  | rd (inp : List UInt8) (pos : Nat) (err : Int) (bad : Bool)

def FR (c r : Nat) (ao : Option Addr) (n : Nat) : Nat → Prop := fun k => k = c ∨ k = r ∨ rb ao n k
/-- The coder at block c is at s; F: its blocks. -/
def CO (w : World) (c : Nat) (F : Nat → Prop) : St → Prop
  | .wr bad out => ∃ p ao cap, CW w c p ao cap bad out ∧ F = FC c p ao
  | .rd inp pos err bad => ∃ r ao cap, CR w c r ao cap inp pos err bad ∧ F = FR c r ao inp.length

namespace St
def size : St → Nat
  | .wr _ out => out.length
  | .rd .. => 0
def bad : St → Bool
  | .wr b _ => b
  | .rd _ _ _ b => b
def must (is : Bool) : St → St
  | .wr b out => .wr (b || !is) out
  | .rd inp pos err b => .rd inp pos err (b || !is)
/-- A number of n bytes. -/
def num (n : Nat) (v : Int) : St → Int × St
  | .wr b out => (v, .wr b (out ++ be n v))
  | .rd inp pos err b => let r := rnum n inp pos err; ((r.1 : Int), .rd inp r.2.1 r.2.2 b)
def truth (v : Bool) : St → Bool × St
  | .wr b out => (v, .wr b (out ++ be 4 (boolNum v)))
  | .rd inp pos err b => let r := rbool inp pos err; (r.1, .rd inp r.2.1 r.2.2 b)
def row (most : Int) (xs : List UInt8) : St → List UInt8 × St
  | .wr b out => (xs, .wr (b || !decide ((xs.length : Int) ≤ most)) (out ++ Go.Proofs.Ytanknjpcgceccaa.row xs))
  | .rd inp pos err b => let r := rbytes most inp pos err; (r.1, .rd inp r.2.1 r.2.2 b)
theorem size_must (s : St) (is : Bool) : (s.must is).size = s.size := by cases s <;> rfl
theorem size_num (s : St) (n : Nat) (v : Int) : (s.num n v).2.size ≤ s.size + n := by
  cases s
  · simp [num, size, be_length]
  · simp [num, size]
theorem size_truth (s : St) (v : Bool) : (s.truth v).2.size ≤ s.size + 4 := by
  cases s
  · simp [truth, size, be_length]
  · simp [truth, size]
theorem size_row (s : St) (most : Int) (xs : List UInt8) : (s.row most xs).2.size ≤ s.size + xs.length + 8 := by
  cases s
  · have := row_length xs
    simp only [row, size, List.length_append]
    omega
  · simp [row, size]
end St

section
variable {w : World} {c r : Nat} {ao : Option Addr} {cap : Nat} {inp : List UInt8} {pos : Nat} {err : Int} {bad : Bool}
theorem CR.lt (h : CR w c r ao cap inp pos err bad) : c < w.heap.size := lt_of_heap h.obj
theorem CR.c0 (h : CR w c r ao cap inp pos err bad) : w.cell? ⟨c, 0, none⟩ = some (.pointer (some ⟨r, 0, none⟩)) := by simp [World.cell?, h.obj]
theorem CR.c1 (h : CR w c r ao cap inp pos err bad) : w.cell? ⟨c, 1, none⟩ = some (.pointer none) := by simp [World.cell?, h.obj]
theorem CR.c2 (h : CR w c r ao cap inp pos err bad) : w.cell? ⟨c, 2, none⟩ = some (.bool bad) := by simp [World.cell?, h.obj]
theorem CR.f2 (h : CR w c r ao cap inp pos err bad) : w.frozen? ⟨c, 2, none⟩ = false := by simp [World.frozen?, h.obj]
theorem CR.keep {w' : World} (h : CR w c r ao cap inp pos err bad) {G : Nat → Prop} (hm : Mods G w w') (hF : ∀ k, FR c r ao inp.length k → ¬ G k) : CR w' c r ao cap inp pos err bad :=
  ⟨hm.obj h.obj (hF c (.inl rfl)), h.rd.keep hm (hF r (.inr (.inl rfl))) (fun k hk => hF k (.inr (.inr hk))), h.ne, h.sep⟩
theorem CR.set2 (h : CR w c r ao cap inp pos err bad) (b : Bool) : CR (w.setCell ⟨c, 2, none⟩ (.bool b)) c r ao cap inp pos err b := by
  have hm : Mods (fun k => k = c) w (w.setCell ⟨c, 2, none⟩ (.bool b)) := Mods.setCell (F := fun k => k = c) (a := ⟨c, 2, none⟩) rfl _
  refine ⟨?_, h.rd.keep hm (fun e => h.ne e.symm) fun k hk e => h.sep k hk e, h.ne, h.sep⟩
  simp [World.setCell, Array.getElem?_modify, h.obj]
/-- Behind a reader's call. -/
theorem CR.read {w' : World} {pos' : Nat} {err' : Int} (h : CR w c r ao cap inp pos err bad) (hr : RD w' r ao cap inp pos' err') (hm : Mods (fun k => k = r) w w') : CR w' c r ao cap inp pos' err' bad :=
  ⟨hm.obj h.obj h.ne, hr, h.ne, h.sep⟩
theorem RD.rb_lt (h : RD w r ao cap inp pos err) : ∀ k, rb ao inp.length k → k < w.heap.size := fun k hk => by
  obtain ⟨b, o, rfl, hc⟩ := h.sl.at (j := 0) (Nat.pos_of_ne_zero hk.1)
  have : b = k := hk.2
  subst this
  exact World.block_lt_of_cell? w ⟨b, o + 0, none⟩ hc
end

theorem CO.lt {w : World} {c : Nat} {F : Nat → Prop} {s : St} (h : CO w c F s) : ∀ k, F k → k < w.heap.size := by
  cases s with
  | wr bad out =>
    obtain ⟨p, ao, cap, h, rfl⟩ := h
    rintro k (rfl | rfl | hk)
    · exact h.lt
    · exact h.wr.lt
    · exact h.wr.own.lt _ hk
  | rd inp pos err bad =>
    obtain ⟨r, ao, cap, h, rfl⟩ := h
    rintro k (rfl | rfl | hk)
    · exact h.lt
    · exact h.rd.lt
    · exact h.rd.rb_lt _ hk
theorem CO.keep {w w' : World} {c : Nat} {F : Nat → Prop} {s : St} (h : CO w c F s) {G : Nat → Prop} (hm : Mods G w w') (hF : ∀ k, F k → ¬ G k) : CO w' c F s := by
  cases s with
  | wr bad out =>
    obtain ⟨p, ao, cap, h, rfl⟩ := h
    exact ⟨p, ao, cap, h.keep hm (hF _ (.inl rfl)) (hF _ (.inr (.inl rfl))) (fun k hk => hF k (.inr (.inr hk))), rfl⟩
  | rd inp pos err bad =>
    obtain ⟨r, ao, cap, h, rfl⟩ := h
    exact ⟨r, ao, cap, h.keep hm hF, rfl⟩
theorem CO.c {w : World} {c : Nat} {F : Nat → Prop} {s : St} (h : CO w c F s) : F c := by
  cases s with
  | wr bad out => obtain ⟨p, ao, cap, _, rfl⟩ := h; exact .inl rfl
  | rd inp pos err bad => obtain ⟨r, ao, cap, _, rfl⟩ := h; exact .inl rfl
theorem CO.c2 {w : World} {c : Nat} {F : Nat → Prop} {s : St} (h : CO w c F s) : w.cell? ⟨c, 2, none⟩ = some (.bool s.bad) := by
  cases s with
  | wr bad out => obtain ⟨p, ao, cap, h, rfl⟩ := h; exact h.c2
  | rd inp pos err bad => obtain ⟨r, ao, cap, h, rfl⟩ := h; exact h.c2

/-- Block g holds the cells A, all of them, and may be written. -/
structure Blk (w : World) (g : Nat) (A : Nat → Option Value) : Prop where
  lt : g < w.heap.size
  cell : ∀ j, w.cell? ⟨g, j, none⟩ = A j
  free : ∀ j, w.frozen? ⟨g, j, none⟩ = false
def upd (A : Nat → Option Value) (o : Nat) (v : Value) : Nat → Option Value := fun j => if j = o then some v else A j
theorem upd_at (A : Nat → Option Value) (o : Nat) (v : Value) : upd A o v o = some v := by simp [upd]
theorem upd_ne (A : Nat → Option Value) {o j : Nat} (v : Value) (h : j ≠ o) : upd A o v j = A j := by simp [upd, h]
theorem upd_self {A : Nat → Option Value} {o : Nat} {v : Value} (h : A o = some v) : upd A o v = A := by
  funext j; by_cases e : j = o
  · subst e; rw [upd_at, h]
  · rw [upd_ne _ _ e]
theorem Blk.keep {w w' : World} {g : Nat} {A : Nat → Option Value} (h : Blk w g A) {F : Nat → Prop} (hm : Mods F w w') (hF : ¬ F g) : Blk w' g A := by
  have hb := hm.block g h.lt hF
  exact ⟨Nat.lt_of_lt_of_le h.lt hm.size, fun j => (World.cell?_of_block hb).trans (h.cell j), fun j => (World.frozen?_of_block hb).trans (h.free j)⟩
theorem Blk.set {w : World} {g : Nat} {A : Nat → Option Value} (h : Blk w g A) {o : Nat} {u : Value} (ho : A o = some u) (v : Value) : Blk (w.setCell ⟨g, o, none⟩ v) g (upd A o v) := by
  refine ⟨by simpa using h.lt, fun j => ?_, fun j => by simpa using h.free j⟩
  by_cases e : j = o
  · subst e
    rw [upd_at]
    exact World.cell?_setCell_same w ⟨g, j, none⟩ _ ((h.cell j).trans ho)
  · rw [upd_ne _ _ e, World.cell?_setCell_other _ _ _ _ (fun e2 => e (congrArg Addr.off e2).symm)]
    exact h.cell j
theorem Blk.congr {w : World} {g : Nat} {A B : Nat → Option Value} (h : Blk w g A) (e : A = B) : Blk w g B := e ▸ h

/-- What a call of the coder leaves, that goes through fields of block g. -/
def GP (w : World) (c : Nat) (F : Nat → Prop) (g : Nat) (v : Value) (s : St) (A : Nat → Option Value) (e : Ending) (w' : World) : Prop :=
  ∃ F', e = .returned v ∧ CO w' c F' s ∧ Mods (fun k => F k ∨ k = g) w w' ∧ (∀ k, F' k → F k ∨ w.heap.size ≤ k) ∧ Blk w' g A

/-- One call behind another. -/
structure GG (w : World) (F : Nat → Prop) (g : Nat) (w' : World) (F' : Nat → Prop) : Prop where
  mods : Mods (fun k => F k ∨ k = g) w w'
  fresh : ∀ k, F' k → F k ∨ w.heap.size ≤ k
theorem GG.refl (w : World) (F : Nat → Prop) (g : Nat) : GG w F g w F := ⟨Mods.refl _ _, fun _ h => .inl h⟩
theorem GG.trans {w w1 w2 : World} {F F1 F2 : Nat → Prop} {g : Nat} (h : GG w F g w1 F1) (k : GG w1 F1 g w2 F2) : GG w F g w2 F2 := by
  refine ⟨h.mods.step k.mods fun j hj hb => ?_, fun j hj => ?_⟩
  · rcases hb with hb | rfl
    · rcases h.fresh j hb with h1 | h1
      · exact .inl h1
      · omega
    · exact .inr rfl
  · rcases k.fresh j hj with h1 | h1
    · exact h.fresh j h1
    · exact .inr (Nat.le_trans h.mods.size h1)
/-- New memory, then a call. -/
theorem GG.new {w w1 : World} {F : Nat → Prop} (g : Nat) (h : Mods (fun _ => False) w w1) : GG w F g w1 F := ⟨h.mono fun _ _ h => h.elim, fun _ h => .inl h⟩
theorem GG.mine {w w1 : World} {F : Nat → Prop} {g : Nat} (h : Mods (fun k => k = g) w w1) : GG w F g w1 F := ⟨h.mono fun _ _ h => .inr h, fun _ h => .inl h⟩
theorem GG.apart {w w' : World} {F F' : Nat → Prop} {g : Nat} (h : GG w F g w' F') {k : Nat} (hk : ¬ F k) (hlt : k < w.heap.size) : ¬ F' k := fun hf => by
  rcases h.fresh k hf with e | e
  · exact hk e
  · omega
/-- A call that went through another block, one that is new. -/
theorem GG.other {w w0 w1 : World} {F F' : Nat → Prop} {g h : Nat} (h0 : Mods (fun _ => False) w w0) (hh : w.heap.size ≤ h) (hg : GG w0 F h w1 F') : GG w F g w1 F' := by
  refine ⟨(h0.mono fun _ _ h => h.elim).step hg.mods fun j hj hb => hb.elim (fun hb => .inl hb) fun e => absurd hj (by omega), fun j hj => ?_⟩
  rcases hg.fresh j hj with h1 | h1
  · exact .inl h1
  · exact .inr (Nat.le_trans h0.size h1)
theorem GP.mk {w : World} {c : Nat} {F : Nat → Prop} {g : Nat} {v : Value} {s : St} {A : Nat → Option Value} {w' : World} {F' : Nat → Prop} (h1 : CO w' c F' s) (h2 : GG w F g w' F') (h3 : Blk w' g A) : GP w c F g v s A (.returned v) w' :=
  ⟨F', rfl, h1, h2.mods, h2.fresh, h3⟩

theorem mustr_any (c r : Nat) (ao : Option Addr) (cap : Nat) (inp : List UInt8) (pos : Nat) (err : Int) (bad is : Bool) (w : World) (h : CR w c r ao cap inp pos err bad) :
    Calls Try.prog 70 #[.pointer (some ⟨c, 0, none⟩), .bool is] w fun e w' => e = .returned (.tuple #[]) ∧ CR w' c r ao cap inp pos err (bad || !is) ∧ Mods (fun k => k = c) w w' := by
  have h2 := h.c2
  have hz := h.f2
  have hfin := hid (h.set2 (bad || !is))
  have hm := hid (Mods.setCell (F := fun k => k = c) (w := w) (a := ⟨c, 2, none⟩) rfl (.bool (bad || !is)))
  have H := hid h
  clear h
  cases bad <;> cases is
  all_goals
    go_enter Try.func70, Try.ntmps70
    go_wp2
    go_end0
    first | exact ⟨rfl, hfin.out, hm.out⟩ | exact ⟨rfl, H.out, Mods.refl _ _⟩

/-- must: something may not be so. -/
theorem must_gen (c : Nat) (F : Nat → Prop) (s : St) (is : Bool) (g : Nat) (A : Nat → Option Value) (w : World) (h : CO w c F s) (hb : Blk w g A) (hg : ¬ F g) :
    Calls Try.prog 70 #[.pointer (some ⟨c, 0, none⟩), .bool is] w (GP w c F g (.tuple #[]) (s.must is) A) := by
  cases s with
  | wr bad out =>
    obtain ⟨p, ao, cap, h, rfl⟩ := h
    refine (must_any c p ao cap bad is out w h).mono ?_
    rintro e w' ⟨ao', cap', rfl, h1, h2⟩
    exact ⟨FC c p ao', rfl, ⟨p, ao', cap', h1, rfl⟩, h2.mods.mono fun _ _ h => .inl h, fun k hk => by
      rcases hk with rfl | rfl | hk
      · exact .inl (.inl rfl)
      · exact .inl (.inr (.inl rfl))
      · exact (h2.fresh k hk).imp (fun h => .inr (.inr h)) id, hb.keep h2.mods hg⟩
  | rd inp pos err bad =>
    obtain ⟨r, ao, cap, h, rfl⟩ := h
    refine (mustr_any c r ao cap inp pos err bad is w h).mono ?_
    rintro e w' ⟨rfl, h1, h2⟩
    exact ⟨FR c r ao inp.length, rfl, ⟨r, ao, cap, h1, rfl⟩, h2.mono fun _ _ h => .inl (.inl h), fun k hk => .inl hk, hb.keep h2 (fun e => hg (.inl e))⟩

end Go.Proofs.Ytanknjpcgceccaa
