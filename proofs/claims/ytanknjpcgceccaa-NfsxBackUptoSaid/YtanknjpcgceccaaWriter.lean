/- xdr's and the reference's Writer: each call's contract. -/
import Derived.Test.YtanknjpcgceccaaNum
namespace Go.Proofs.Ytanknjpcgceccaa
open Go.RowKit

/-- A writer at block p holds the bytes bs. -/
structure WR (w : World) (p : Nat) (ao : Option Addr) (cap : Nat) (bs : List UInt8) : Prop where
  cell : w.cell? ⟨p, 0, none⟩ = some (.slice ao bs.length cap)
  free : w.frozen? ⟨p, 0, none⟩ = false
  own : OwnB w ao cap bs
  sep : ¬ blk ao p

def FP (p : Nat) (ao : Option Addr) : Nat → Prop := fun k => k = p ∨ blk ao k
structure WGrew (w : World) (p : Nat) (ao : Option Addr) (w' : World) (ao' : Option Addr) : Prop where
  mods : Mods (FP p ao) w w'
  fresh : ∀ k, blk ao' k → blk ao k ∨ w.heap.size ≤ k
theorem WGrew.refl (w : World) (p : Nat) (ao : Option Addr) : WGrew w p ao w ao := ⟨Mods.refl _ _, fun _ h => .inl h⟩
theorem WGrew.trans {w w1 w2 : World} {p : Nat} {a a1 a2 : Option Addr} (h : WGrew w p a w1 a1) (g : WGrew w1 p a1 w2 a2) : WGrew w p a w2 a2 := by
  refine ⟨h.mods.step g.mods fun k hk hb => ?_, fun k hk => ?_⟩
  · rcases hb with rfl | hb
    · exact .inl rfl
    · rcases h.fresh k hb with h | h
      · exact .inr h
      · omega
  · rcases g.fresh k hk with h1 | h1
    · exact h.fresh k h1
    · exact .inr (Nat.le_trans h.mods.size h1)
theorem WGrew.alloc {w w1 : World} {p : Nat} {a a1 : Option Addr} (h : WGrew w p a w1 a1) (o : Obj) : WGrew w p a (w1.alloc o) a1 := ⟨h.mods.trans (Mods.alloc _ _ _), h.fresh⟩
theorem WGrew.new {w w1 w2 : World} {p : Nat} {a a1 : Option Addr} (h : WGrew w p a w1 a1) (g : Mods (fun _ => False) w1 w2) : WGrew w p a w2 a1 := ⟨h.mods.step g fun _ _ h => h.elim, h.fresh⟩
theorem WR.lt {w : World} {p : Nat} {ao : Option Addr} {cap : Nat} {bs : List UInt8} (h : WR w p ao cap bs) : p < w.heap.size := World.block_lt_of_cell? w ⟨p, 0, none⟩ h.cell
theorem WR.keep {w w' : World} {p : Nat} {ao : Option Addr} {cap : Nat} {bs : List UInt8} (h : WR w p ao cap bs) {F : Nat → Prop} (hm : Mods F w w') (hp : ¬ F p) (hF : ∀ k, blk ao k → ¬ F k) : WR w' p ao cap bs :=
  ⟨hm.cell h.cell hp, (World.frozen?_of_block (w := w) (hm.block p h.lt hp)).trans h.free, h.own.keep hm hF, h.sep⟩
theorem WR.alloc {w : World} {p : Nat} {ao : Option Addr} {cap : Nat} {bs : List UInt8} (h : WR w p ao cap bs) (o : Obj) : WR (w.alloc o) p ao cap bs :=
  h.keep (Mods.alloc (fun _ => False) w o) (fun h => h) fun _ _ h => h
/-- The writer's slice is set anew. -/
theorem WR.set {w : World} {p : Nat} {ao : Option Addr} {cap : Nat} {bs : List UInt8} (h : WR w p ao cap bs) {ao' : Option Addr} {cap' : Nat} {bs' : List UInt8} (hown : OwnB w ao' cap' bs') (hsep : ¬ blk ao' p) :
    WR (w.setCell ⟨p, 0, none⟩ (.slice ao' bs'.length cap')) p ao' cap' bs' :=
  ⟨World.cell?_setCell_same w ⟨p, 0, none⟩ _ h.cell, by simp [h.free], hown.keep (Mods.setCell (F := fun k => k = p) (a := ⟨p, 0, none⟩) rfl _) fun k hk e => hsep (e ▸ hk), hsep⟩
theorem WR.set2 {w : World} {p : Nat} {v : Value} (hc : w.cell? ⟨p, 0, none⟩ = some v) (hz : w.frozen? ⟨p, 0, none⟩ = false) {ao' : Option Addr} {cap' : Nat} {bs' : List UInt8} (hown : OwnB w ao' cap' bs') (hsep : ¬ blk ao' p) :
    WR (w.setCell ⟨p, 0, none⟩ (.slice ao' bs'.length cap')) p ao' cap' bs' :=
  ⟨World.cell?_setCell_same w ⟨p, 0, none⟩ _ hc, by simp [hz], hown.keep (Mods.setCell (F := fun k => k = p) (a := ⟨p, 0, none⟩) rfl _) fun k hk e => hsep (e ▸ hk), hsep⟩
theorem WGrew.set {w w1 : World} {p : Nat} {a a1 : Option Addr} (h : WGrew w p a w1 a1) (v : Value) {a2 : Option Addr} (hf : ∀ k, blk a2 k → blk a k ∨ w.heap.size ≤ k) : WGrew w p a (w1.setCell ⟨p, 0, none⟩ v) a2 :=
  ⟨h.mods.trans (Mods.setCell (a := ⟨p, 0, none⟩) (.inl rfl) v), hf⟩

/-- What a writer's call leaves. -/
def WPost (w : World) (p : Nat) (ao : Option Addr) (bs : List UInt8) (e : Ending) (w' : World) : Prop :=
  ∃ ao' cap', e = .returned (.tuple #[]) ∧ WR w' p ao' cap' bs ∧ WGrew w p ao w' ao'

set_option maxHeartbeats 400000 in
theorem Clone_any (ao : Option Addr) (cap : Nat) (bs : List UInt8) (w : World) (hb : SlB w ao cap bs) (hlen : bs.length ≤ 1000000000) :
    Calls Try.prog 50 #[.slice ao bs.length cap] w (NewB w bs) := by
  have HB := hid hb; clear hb
  rcases ao with _ | a
  · have hc : cap = 0 := HB.out.2.2.1 rfl
    have hn : bs.length = 0 := by have := HB.out.2.1; omega
    have hbs : bs = [] := List.eq_nil_of_length_eq_zero hn
    subst hbs hc
    have heq := fun (w : World) => Lib.run_eql_slice_nil (P := Try.prog) w 22 5 none 0 0 0 0 Try.underlying22
    clear hn hlen
    go_enter Try.func50, Try.ntmps50
    go_wp2
    go_ret
    exact ⟨none, 0, rfl, OwnB.nil _, Grew.refl _ _⟩
  · have heq := fun (w : World) => Lib.run_eql_slice_nil (P := Try.prog) w 22 5 (some a) bs.length cap 0 0 Try.underlying22
    go_enter Try.func50, Try.ntmps50
    go_wp2_with (at_builtin; refine wpList_appB _ rfl _ _ rfl _ _ _ [] rfl rfl ?c1 _ _ _ bs rfl rfl (HB.out.alloc _) ?c2 ?_)
    case c2 => simp; omega
    case c1 => exact OwnB.empty _
    intro ao' cap' cs' w' hcs hown hg
    have hg2 : Grew w none w' ao' := ⟨(Mods.alloc _ _ _).step hg.mods fun k hk h => by cases h; simp at hk, fun k hk => .inr (by
      rcases hg.fresh k hk with h | h
      · cases h; simp
      · simp at h; omega)⟩
    have hcs' : Hid (cs' = bs) := hcs
    clear hcs hg
    go_wp2
    go_ret
    obtain rfl := hcs'.out
    exact ⟨_, _, rfl, hown, hg2⟩

set_option maxHeartbeats 400000 in
theorem NewWriter_any (w : World) :
    Calls Try.prog 36 #[] w fun e w' => ∃ p, e = .returned (.pointer (some ⟨p, 0, none⟩)) ∧ w.heap.size ≤ p ∧ WR w' p none 0 [] ∧ Mods (fun _ => False) w w' := by
  go_enter Try.func36, Try.ntmps36
  go_wp2
  go_ret
  refine ⟨w.heap.size, rfl, Nat.le_refl _, ⟨by simp, by simp, OwnB.nil _, fun h => h⟩, Mods.alloc _ _ _⟩

set_option maxHeartbeats 400000 in
theorem Done_any (p : Nat) (ao : Option Addr) (cap : Nat) (bs : List UInt8) (w : World) (h : WR w p ao cap bs) (hlen : bs.length ≤ 20000000) :
    Calls Try.prog 37 #[.pointer (some ⟨p, 0, none⟩)] w (NewB w bs) := by
  have hc := h.cell
  have hs := hid h.own.sl
  go_enter Try.func37, Try.ntmps37
  go_wp2_with (go_at_call 50; refine (Clone_any _ _ _ _ hs.out (by omega)).mono ?_; rintro e w' ⟨ao', cap', rfl, ho, hg⟩)
  go_ret
  exact ⟨_, _, rfl, ho, hg⟩

set_option maxHeartbeats 400000 in
theorem U64_any (p : Nat) (ao : Option Addr) (cap : Nat) (bs : List UInt8) (lo : Option Addr) (lc : Nat) (vs : List Int) (w : World) (h : WR w p ao cap bs) (hlen : bs.length ≤ 20000000)
    (hvs : ∀ v ∈ vs, 0 ≤ v ∧ v < 18446744073709551616) (hl : Sl w 1 lo vs.length lc (vs.map (Value.int .u64))) (hvlen : vs.length ≤ 1000) :
    Calls Try.prog 79 #[.pointer (some ⟨p, 0, none⟩), .slice lo vs.length lc] w (WPost w p ao (bs ++ bes 8 vs)) := by
  have hc := h.cell
  have H := hid h; have HV := hid hvs; have HL := hid hl; clear h hvs hl
  go_enter Try.func79, Try.ntmps79
  go_wp2_with fail
  refine (PutBe_any 8 lo lc vs ao cap bs w (.inl rfl) HV.out HL.out H.out.own.sl hlen hvlen).mono ?_
  rintro e w1 ⟨ao1, cap1, rfl, ho, hg⟩
  have H1 := hid (H.out.keep hg.mods (fun h => h) fun _ _ h => h)
  have hsep : Hid (¬ blk ao1 p) := fun hk => by
    rcases hg.fresh p hk with h | h
    · exact h
    · have := H.out.lt; omega
  have hc1 := H1.out.cell
  have hz1 := H1.out.free
  have ho' := hid ho; have hg' := hid hg; clear ho hg
  obtain ⟨cs, hcs⟩ : ∃ cs, cs = bs ++ bes 8 vs := ⟨_, rfl⟩
  rw [← hcs] at ho' ⊢
  have hcs' := hid hcs; clear hcs
  go_wp2
  go_end0
  obtain rfl := hcs'.out
  exact ⟨ao1, cap1, rfl, H1.out.set ho'.out hsep.out, ((WGrew.refl w p ao).new hg'.out.mods).set _ fun k hk => .inr ((hg'.out.fresh k hk).resolve_left fun h => h)⟩

theorem bes_one (n : Nat) (x : Int) : bes n [x] = be n x := by simp [bes]

set_option maxHeartbeats 400000 in
theorem U32_any (p : Nat) (ao : Option Addr) (cap : Nat) (bs : List UInt8) (lo : Option Addr) (lc : Nat) (vs : List Int) (w : World) (h : WR w p ao cap bs) (hlen : bs.length + 4 * vs.length ≤ 20000000)
    (hvs : ∀ v ∈ vs, 0 ≤ v ∧ v < 4294967296) (hl : Sl w 1 lo vs.length lc (vs.map (Value.int .u32))) (hd : ∀ k, rb lo vs.length k → k ≠ p ∧ ¬ blk ao k) :
    Calls Try.prog 77 #[.pointer (some ⟨p, 0, none⟩), .slice lo vs.length lc] w (WPost w p ao (bs ++ bes 4 vs)) := by
  have H := hid h; have HV := hid hvs; have HL := hid hl; have HD := hid hd; clear h hvs hl hd
  go_enter Try.func77, Try.ntmps77
  go_wp2
  go_loopw [8] (fun i wr => ∃ (k : Nat) (ao' : Option Addr) (cap' : Nat) (cs : List UInt8), k ≤ vs.length ∧ i = .int .i64 (k : Int) ∧ Hid (cs = bs ++ bes 4 (vs.take k)) ∧
      cs.length ≤ bs.length + 4 * k ∧ WR wr p ao' cap' cs ∧ WGrew w p ao wr ao') (fun i _ => vs.length - (intOf i).toNat)
  case atStart => exact ⟨0, ao, cap, bs, by omega, by go_num, by simp [bes, Hid], by omega, H.out, WGrew.refl _ _ _⟩
  case round =>
    obtain ⟨k, ao', cap', cs, hk, rfl, hcs, hcl, hw, hg⟩ := hrel
    by_cases hlt : k < vs.length
    · have HC : Hid (∃ b o, lo = some ⟨b, o, none⟩ ∧ wr.cell? ⟨b, o + k, none⟩ = some (.int .u32 vs[k])) := by
        obtain ⟨b, o, h1, h2⟩ := (HL.out.keep hg.mods (fun k hk hf => by
          rcases hf with h | h
          · exact (HD.out k hk).1 h
          · exact (HD.out k hk).2 h)).at (j := k) (by simpa using hlt)
        exact ⟨b, o, h1, by simpa using h2⟩
      have HX := hid (HV.out vs[k] (by simp))
      have HS : Hid (bes 4 (vs.take (k + 1)) = bes 4 (vs.take k) ++ be 4 vs[k]) := by
        rw [List.take_succ_eq_append_getElem hlt]; exact bes_snoc _ _ _
      obtain ⟨b, o, rfl, hcell⟩ := HC.out
      clear HL HV HC HD
      obtain ⟨x, hx⟩ : ∃ x, x = vs[k] := ⟨_, rfl⟩
      rw [← hx] at hcell HX HS
      clear hx
      have hc := hw.cell
      have hx0 : 0 ≤ x := HX.out.1
      have hx1 : x < 4294967296 := HX.out.2
      have hw' := hid hw; clear hw
      go_wp2_with fail
      refine (PutBe_any 4 _ _ [x] _ _ cs _ (.inr ⟨rfl, by simp; omega⟩) (by simp; omega) (Sl.one _ _ _) (hw'.out.own.sl.alloc _) (by omega) (by simp)).mono ?_
      rintro e w1 ⟨ao1, cap1, rfl, ho, hg1⟩
      have H1 := hid ((hw'.out.alloc _).keep hg1.mods (fun h => h) fun _ _ h => h)
      have hsep : Hid (¬ blk ao1 p) := fun hk => by
        rcases hg1.fresh p hk with h | h
        · exact h
        · have := hw'.out.lt; simp at h; omega
      have hg2 := hid ((hg.alloc _).new hg1.mods)
      have hf : Hid (∀ k, blk ao1 k → blk ao k ∨ w.heap.size ≤ k) := fun k hk => by
        rcases hg1.fresh k hk with h | h
        · exact h.elim
        · have := hg.mods.size; simp at h; exact .inr (by omega)
      have hc1 := H1.out.cell
      have hz1 := H1.out.free
      have ho' := hid ho
      obtain ⟨cs1, hcs1⟩ : ∃ c, c = cs ++ bes 4 [x] := ⟨_, rfl⟩
      rw [← hcs1] at ho' ⊢
      have hl1 : cs1.length ≤ bs.length + 4 * (k + 1) := by rw [hcs1]; simp [bes_one, be_length]; omega
      have hcs2 : Hid (cs1 = bs ++ bes 4 (vs.take (k + 1))) := by rw [hcs1, HS.out, hcs.out, bes_one, List.append_assoc]; rfl
      clear hcs1 ho hg1 hg hc hcs HS
      go_wp2
      go_roundw
      case rel => exact ⟨k + 1, ao1, cap1, cs1, by omega, by go_num, hcs2, hl1, H1.out.set ho'.out hsep.out, hg2.out.set _ hf.out⟩
      case measure => simp [intOf]; omega
    · have hcs2 : cs = bs ++ bes 4 vs := by rw [hcs.out, List.take_of_length_le (by omega)]
      clear hcs
      go_wp2
      go_end0
      subst hcs2
      exact ⟨ao', cap', rfl, hw, hg⟩

def boolNum (b : Bool) : Int := if b then 1 else 0

/-- What a writer calls does to the slices that are read beside it. -/
theorem Sl.wkeep {w w' : World} {size : Nat} {lo : Option Addr} {n lc : Nat} {xs : List Value} (h : Sl w size lo n lc xs) {p : Nat} {ao ao' : Option Addr} (hd : ∀ k, rb lo n k → k ≠ p ∧ ¬ blk ao k) (hg : WGrew w p ao w' ao') : Sl w' size lo n lc xs :=
  h.keep hg.mods fun k hk hf => by
    rcases hf with h | h
    · exact (hd k hk).1 h
    · exact (hd k hk).2 h
theorem SlB.wkeep {w w' : World} {lo : Option Addr} {lc : Nat} {xs : List UInt8} (h : SlB w lo lc xs) {p : Nat} {ao ao' : Option Addr} (hd : ∀ k, rb lo xs.length k → k ≠ p ∧ ¬ blk ao k) (hg : WGrew w p ao w' ao') : SlB w' lo lc xs := Sl.wkeep h hd hg

set_option maxHeartbeats 400000 in
theorem Bool_any (p : Nat) (ao : Option Addr) (cap : Nat) (bs : List UInt8) (lo : Option Addr) (lc : Nat) (vs : List Bool) (w : World) (h : WR w p ao cap bs) (hlen : bs.length + 4 * vs.length ≤ 20000000)
    (hl : Sl w 1 lo vs.length lc (vs.map Value.bool)) (hd : ∀ k, rb lo vs.length k → k ≠ p ∧ ¬ blk ao k) :
    Calls Try.prog 75 #[.pointer (some ⟨p, 0, none⟩), .slice lo vs.length lc] w (WPost w p ao (bs ++ bes 4 (vs.map boolNum))) := by
  have H := hid h; have HL := hid hl; have HD := hid hd; clear h hl hd
  go_enter Try.func75, Try.ntmps75
  go_wp2
  go_loopw [8] (fun i wr => ∃ (k : Nat) (ao' : Option Addr) (cap' : Nat) (cs : List UInt8), k ≤ vs.length ∧ i = .int .i64 (k : Int) ∧ Hid (cs = bs ++ bes 4 ((vs.take k).map boolNum)) ∧
      cs.length ≤ bs.length + 4 * k ∧ WR wr p ao' cap' cs ∧ WGrew w p ao wr ao') (fun i _ => vs.length - (intOf i).toNat)
  case atStart => exact ⟨0, ao, cap, bs, by omega, by go_num, by simp [bes, Hid], by omega, H.out, WGrew.refl _ _ _⟩
  case round =>
    obtain ⟨k, ao', cap', cs, hk, rfl, hcs, hcl, hw, hg⟩ := hrel
    by_cases hlt : k < vs.length
    · have HC : Hid (∃ b o, lo = some ⟨b, o, none⟩ ∧ wr.cell? ⟨b, o + k, none⟩ = some (.bool vs[k])) := by
        obtain ⟨b, o, h1, h2⟩ := (HL.out.wkeep HD.out hg).at (j := k) (by simpa using hlt)
        exact ⟨b, o, h1, by simpa using h2⟩
      have HS : Hid (bes 4 ((vs.take (k + 1)).map boolNum) = bes 4 ((vs.take k).map boolNum) ++ be 4 (boolNum vs[k])) := by
        rw [List.take_succ_eq_append_getElem hlt, List.map_append]; exact bes_snoc _ _ _
      obtain ⟨b, o, rfl, hcell⟩ := HC.out
      clear HL HC HD
      obtain ⟨x, hx⟩ : ∃ x, x = vs[k] := ⟨_, rfl⟩
      rw [← hx] at hcell HS
      clear hx
      have hw' := hid hw; have hg' := hid hg; have hcs' := hid hcs; clear hw hg hcs
      have hnew : ∀ (n : Nat) (q : Nat), rb (some ⟨wr.heap.size, 0, none⟩) n q → q ≠ p ∧ ¬ blk ao' q := by
        intro y q hq
        have hq' : wr.heap.size = q := hq.2
        subst hq'
        exact ⟨by have := hw'.out.lt; omega, fun h => by have := hw'.out.own.lt _ h; omega⟩
      cases x
      all_goals
        go_wp2_with fail
        refine (U32_any p ao' cap' cs _ _ [_] _ (hw'.out.alloc _) (by simp; omega) (by simp) (Sl.one _ _ _) (hnew _)).mono ?_
        rintro e w1 ⟨ao1, cap1, rfl, hw1, hg1⟩
        have hg2 := hid ((hg'.out.alloc _).trans hg1)
        have hw2 := hid hw1
        first | (obtain ⟨cs1, hcs1⟩ : ∃ c, c = cs ++ bes 4 [boolNum false] := ⟨_, rfl⟩; rw [show (0 : Int) = boolNum false from rfl, ← hcs1] at hw2) | (obtain ⟨cs1, hcs1⟩ : ∃ c, c = cs ++ bes 4 [boolNum true] := ⟨_, rfl⟩; rw [show (1 : Int) = boolNum true from rfl, ← hcs1] at hw2)
        have hl1 : cs1.length ≤ bs.length + 4 * (k + 1) := by rw [hcs1]; simp [bes_one, be_length]; omega
        have hcs2 : Hid (cs1 = bs ++ bes 4 ((vs.take (k + 1)).map boolNum)) := by rw [hcs1, HS.out, hcs'.out.out, bes_one, List.append_assoc]; rfl
        clear hcs1 hw1 hg1 HS hw' hg' hcs' hnew
        go_wp2
        go_roundw
        case rel => exact ⟨k + 1, ao1, cap1, cs1, by omega, by go_num, hcs2, hl1, hw2.out, hg2.out⟩
        case measure => simp [intOf]; omega
    · have hcs2 : cs = bs ++ bes 4 (vs.map boolNum) := by rw [hcs.out, List.take_of_length_le (by omega)]
      clear hcs
      go_wp2
      go_end0
      subst hcs2
      exact ⟨ao', cap', rfl, hw, hg⟩

/-- A slice of bytes as a value: where it lies, its capacity, its bytes. -/
abbrev BS := Option Addr × Nat × List UInt8
def BS.val (s : BS) : Value := .slice s.1 s.2.2.length s.2.1
def pad (n : Nat) : Nat := (4 - n % 4) % 4
def padded (bs : List UInt8) : List UInt8 := bs ++ List.replicate (pad bs.length) 0
theorem padded_length (bs : List UInt8) : (padded bs).length ≤ bs.length + 3 := by simp [padded, pad]; omega

set_option maxHeartbeats 400000 in
theorem Fixed_any (p : Nat) (ao : Option Addr) (cap : Nat) (bs : List UInt8) (lo : Option Addr) (lc : Nat) (vs : List BS) (w : World) (h : WR w p ao cap bs) (T : Nat) (hT : ∀ s ∈ vs, s.2.2.length ≤ T) (hlen : bs.length + (T + 3) * vs.length ≤ 20000000)
    (hl : Sl w 1 lo vs.length lc (vs.map BS.val)) (hd : ∀ k, rb lo vs.length k → k ≠ p ∧ ¬ blk ao k) (hs : ∀ s ∈ vs, SlB w s.1 s.2.1 s.2.2 ∧ ∀ k, rb s.1 s.2.2.length k → k ≠ p ∧ ¬ blk ao k) :
    Calls Try.prog 98 #[.pointer (some ⟨p, 0, none⟩), .slice lo vs.length lc] w (WPost w p ao (bs ++ vs.flatMap fun s => padded s.2.2)) := by
  have H := hid h; have HL := hid hl; have HD := hid hd; have HSS := hid hs; have HT := hid hT; have HLEN := hid hlen; clear h hl hd hs hT hlen
  have hvl : vs.length ≤ 20000000 := by
    have h1 := HLEN.out
    have : vs.length ≤ (T + 3) * vs.length := Nat.le_mul_of_pos_left _ (by omega)
    omega
  go_enter Try.func98, Try.ntmps98
  go_wp2
  go_loopw [8] (fun i wr => ∃ (k : Nat) (ao' : Option Addr) (cap' : Nat) (cs : List UInt8), k ≤ vs.length ∧ i = .int .i64 (k : Int) ∧ Hid (cs = bs ++ (vs.take k).flatMap fun s => padded s.2.2) ∧
      Hid (cs.length ≤ bs.length + (T + 3) * k) ∧ WR wr p ao' cap' cs ∧ WGrew w p ao wr ao') (fun i _ => vs.length - (intOf i).toNat)
  case atStart => exact ⟨0, ao, cap, bs, by omega, by go_num, by simp [Hid], by simp [Hid], H.out, WGrew.refl _ _ _⟩
  case round =>
    obtain ⟨k, ao', cap', cs, hk, rfl, hcs, hcl, hw, hg⟩ := hrel
    by_cases hlt : k < vs.length
    · obtain ⟨⟨xo, xc, xs⟩, hx⟩ : ∃ x, x = vs[k] := ⟨_, rfl⟩
      have hmem : (xo, xc, xs) ∈ vs := by rw [hx]; simp
      have HC : Hid (∃ b o, lo = some ⟨b, o, none⟩ ∧ wr.cell? ⟨b, o + k, none⟩ = some (.slice xo xs.length xc)) := by
        obtain ⟨b, o, h1, h2⟩ := (HL.out.wkeep HD.out hg).at (j := k) (by simpa using hlt)
        exact ⟨b, o, h1, by rw [h2]; simp [← hx, BS.val]⟩
      have HS : Hid ((vs.take (k + 1)).flatMap (fun s => padded s.2.2) = (vs.take k).flatMap (fun s => padded s.2.2) ++ padded xs) := by
        rw [List.take_succ_eq_append_getElem hlt, ← hx, List.flatMap_append]; simp [Hid]
      have hxl : xs.length ≤ T := HT.out _ hmem
      have hsx := hid ((HSS.out _ hmem).1.wkeep (HSS.out _ hmem).2 hg)
      have hcl2 : cs.length + T + 3 ≤ 20000000 := by
        have h1 := hcl.out
        have h2 := HLEN.out
        have h3 : (T + 3) * (k + 1) ≤ (T + 3) * vs.length := Nat.mul_le_mul_left _ (by omega)
        rw [Nat.mul_add] at h3
        omega
      obtain ⟨b, o, rfl, hcell⟩ := HC.out
      clear HL HC HD HSS HT hmem hx
      have hc := hw.cell
      have hw' := hid hw; have hg' := hid hg; have hcs' := hid hcs; clear hw hg hcs
      go_wp2_with (at_builtin; refine wpList_appB _ rfl _ _ rfl _ _ _ cs rfl rfl hw'.out.own _ _ _ xs rfl rfl hsx.out ?c1 ?_)
      case c1 => omega
      intro ao1 cap1 cs1 w1 hcs1 ho1 hg1
      have hband : bits BinOp.and IntKind.i64 (-(xs.length : Int)) 3 = ((pad xs.length : Nat) : Int) := by rw [i64_and3]; unfold pad; omega
      have hpl : pad xs.length ≤ 3 := by unfold pad; omega
      have hc1l : cs1.length = cs.length + xs.length := by rw [hcs1.out]; simp
      have hc1h := hid hc1l
      have hc1m : cs1.length ≤ cs.length + xs.length := by omega
      clear hc1l
      go_wp2_with (at_builtin; refine wpList_appBz _ rfl _ _ rfl _ _ _ cs1 rfl rfl ho1 _ (pad xs.length) rfl rfl ?c2 ?_)
      case c2 => omega
      intro ao2 cap2 cs2 w2 hcs2 ho2 hg2
      have hgw : Grew wr ao' w2 ao2 := hg1.trans hg2
      have hW2 : Mods (FP p ao') wr w2 := hgw.mods.mono fun k _ h => .inr h
      have hcp : w2.cell? ⟨p, 0, none⟩ = some (.slice ao' cs.length cap') := hgw.mods.cell hw'.out.cell hw'.out.sep
      have hzp : w2.frozen? ⟨p, 0, none⟩ = false := (World.frozen?_of_block (w := wr) (hgw.mods.block p hw'.out.lt hw'.out.sep)).trans hw'.out.free
      have hsep2 : Hid (¬ blk ao2 p) := fun hk => by
        rcases hgw.fresh p hk with h | h
        · exact hw'.out.sep h
        · have := hw'.out.lt; omega
      have hf : Hid (∀ q, blk ao2 q → blk ao q ∨ w.heap.size ≤ q) := fun q hq => by
        rcases hgw.fresh q hq with h | h
        · exact hg'.out.fresh q h
        · have := hg'.out.mods.size; exact .inr (by omega)
      have hg3 := hid (hg'.out.trans (⟨hW2, hgw.fresh⟩ : WGrew wr p ao' w2 ao2))
      have hcs3 : Hid (cs2 = bs ++ (vs.take (k + 1)).flatMap fun s => padded s.2.2) := by
        rw [hcs2.out, hcs1.out, HS.out, hcs'.out.out]; simp [padded, Hid]
      have hcl3 : Hid (cs2.length ≤ bs.length + (T + 3) * (k + 1)) := by
        have h1 := hcl.out
        have h2 := hc1h.out
        have h3 : cs2.length = cs1.length + pad xs.length := by rw [hcs2.out]; simp
        rw [Hid, Nat.mul_add]
        omega
      have hset := hid (WR.set2 hcp hzp ho2 hsep2.out)
      clear hcs2 hcs1 ho1 hg1 ho2 hg2 hgw hW2
      go_wp2
      go_roundw
      case rel => exact ⟨k + 1, ao2, cap2, cs2, by omega, by go_num, hcs3, hcl3, hset.out, hg3.out.set _ hf.out⟩
      case measure => simp [intOf]; omega
    · have hcs2 : cs = bs ++ vs.flatMap fun s => padded s.2.2 := by rw [hcs.out, List.take_of_length_le (by omega)]
      clear hcs
      go_wp2
      go_end0
      subst hcs2
      exact ⟨ao', cap', rfl, hw, hg⟩

def row (bs : List UInt8) : List UInt8 := be 4 bs.length ++ padded bs
theorem row_length (bs : List UInt8) : (row bs).length ≤ bs.length + 7 := by have := padded_length bs; simp [row, be_length]; omega

theorem apart_new {w : World} {p n : Nat} {ao : Option Addr} {cap : Nat} {bs : List UInt8} (h : WR w p ao cap bs) : ∀ q, rb (some ⟨w.heap.size, 0, none⟩) n q → q ≠ p ∧ ¬ blk ao q := by
  intro q hq
  have hq' : w.heap.size = q := hq.2
  subst hq'
  exact ⟨by have := h.lt; omega, fun h' => by have := h.own.lt _ h'; omega⟩
theorem apart_old {w w' : World} {p n : Nat} {ao ao' xo : Option Addr} (hd : ∀ k, rb xo n k → k ≠ p ∧ ¬ blk ao k) (hg : WGrew w p ao w' ao') (hlt : ∀ k, rb xo n k → k < w.heap.size) : ∀ k, rb xo n k → k ≠ p ∧ ¬ blk ao' k := by
  intro k hk
  refine ⟨(hd k hk).1, fun h => ?_⟩
  rcases hg.fresh k h with h | h
  · exact (hd k hk).2 h
  · have := hlt k hk; omega

set_option maxHeartbeats 1000000 in
theorem Bytes_any (p : Nat) (ao : Option Addr) (cap : Nat) (bs : List UInt8) (lo : Option Addr) (lc : Nat) (vs : List BS) (w : World) (h : WR w p ao cap bs) (T : Nat) (hT : ∀ s ∈ vs, s.2.2.length ≤ T) (hlen : bs.length + (T + 7) * vs.length ≤ 20000000)
    (hl : Sl w 1 lo vs.length lc (vs.map BS.val)) (hd : ∀ k, rb lo vs.length k → k ≠ p ∧ ¬ blk ao k) (hs : ∀ s ∈ vs, SlB w s.1 s.2.1 s.2.2 ∧ ∀ k, rb s.1 s.2.2.length k → k < w.heap.size ∧ k ≠ p ∧ ¬ blk ao k) :
    Calls Try.prog 82 #[.pointer (some ⟨p, 0, none⟩), .slice lo vs.length lc] w (WPost w p ao (bs ++ vs.flatMap fun s => row s.2.2)) := by
  have H := hid h; have HL := hid hl; have HD := hid hd; have HSS := hid hs; have HT := hid hT; have HLEN := hid hlen; clear h hl hd hs hT hlen
  have hvl : vs.length ≤ 20000000 := by
    have h1 := HLEN.out
    have : vs.length ≤ (T + 7) * vs.length := Nat.le_mul_of_pos_left _ (by omega)
    omega
  go_enter Try.func82, Try.ntmps82
  go_wp2
  go_loopw [8] (fun i wr => ∃ (k : Nat) (ao' : Option Addr) (cap' : Nat) (cs : List UInt8), k ≤ vs.length ∧ i = .int .i64 (k : Int) ∧ Hid (cs = bs ++ (vs.take k).flatMap fun s => row s.2.2) ∧
      Hid (cs.length ≤ bs.length + (T + 7) * k) ∧ WR wr p ao' cap' cs ∧ WGrew w p ao wr ao') (fun i _ => vs.length - (intOf i).toNat)
  case atStart => exact ⟨0, ao, cap, bs, by omega, by go_num, by simp [Hid], by simp [Hid], H.out, WGrew.refl _ _ _⟩
  case round =>
    obtain ⟨k, ao', cap', cs, hk, rfl, hcs, hcl, hw, hg⟩ := hrel
    by_cases hlt : k < vs.length
    · obtain ⟨⟨xo, xc, xs⟩, hx⟩ : ∃ x, x = vs[k] := ⟨_, rfl⟩
      have hmem : (xo, xc, xs) ∈ vs := by rw [hx]; simp
      have HC : Hid (∃ b o, lo = some ⟨b, o, none⟩ ∧ wr.cell? ⟨b, o + k, none⟩ = some (.slice xo xs.length xc)) := by
        obtain ⟨b, o, h1, h2⟩ := (HL.out.wkeep HD.out hg).at (j := k) (by simpa using hlt)
        exact ⟨b, o, h1, by rw [h2]; simp [← hx, BS.val]⟩
      have HS : Hid ((vs.take (k + 1)).flatMap (fun s => row s.2.2) = (vs.take k).flatMap (fun s => row s.2.2) ++ row xs) := by
        rw [List.take_succ_eq_append_getElem hlt, ← hx, List.flatMap_append]; simp [Hid]
      have hxl : xs.length ≤ T := HT.out _ hmem
      have hap : Hid (∀ k, rb xo xs.length k → k ≠ p ∧ ¬ blk ao k) := fun k hk => ((HSS.out _ hmem).2 k hk).2
      have hsx := hid ((HSS.out _ hmem).1.wkeep hap.out hg)
      have hap' := hid (apart_old hap.out hg fun k hk => ((HSS.out _ hmem).2 k hk).1)
      have hxlt : Hid (∀ k, rb xo xs.length k → k < wr.heap.size) := fun k hk => Nat.lt_of_lt_of_le ((HSS.out _ hmem).2 k hk).1 hg.mods.size
      have hcl2 : cs.length + T + 7 ≤ 20000000 := by
        have h1 := hcl.out
        have h2 := HLEN.out
        have h3 : (T + 7) * (k + 1) ≤ (T + 7) * vs.length := Nat.mul_le_mul_left _ (by omega)
        rw [Nat.mul_add] at h3
        omega
      obtain ⟨b, o, rfl, hcell⟩ := HC.out
      clear HL HC HD HSS HT hmem hx hap
      have hw' := hid hw; have hg' := hid hg; have hcs' := hid hcs; clear hw hg hcs
      go_wp2_with fail
      refine (U32_any p ao' cap' cs _ _ [_] _ (hw'.out.alloc _) (by simp; omega) (by simp; omega) (Sl.one _ _ _) (apart_new hw'.out)).mono ?_
      rintro e w1 ⟨ao1, cap1, rfl, hw1, hg1⟩
      have hg2 := hid (((WGrew.refl wr p ao').alloc _).trans hg1)
      have hw2 := hid hw1
      obtain ⟨cs1, hcs1⟩ : ∃ c, c = cs ++ bes 4 [(xs.length : Int)] := ⟨_, rfl⟩
      rw [← hcs1] at hw2
      have hl1 : cs1.length ≤ cs.length + 4 := by rw [hcs1]; simp [bes_one, be_length]
      have hcs1' := hid hcs1
      have hsx1 := hid (hsx.out.wkeep hap'.out hg2.out)
      have hap1 := hid (apart_old hap'.out hg2.out hxlt.out)
      clear hcs1 hw1 hg1
      go_wp2_with fail
      refine (Fixed_any p ao1 cap1 cs1 _ _ [(xo, xc, xs)] _ (hw2.out.alloc _) T (by simpa using hxl) (by simp; omega) (Sl.one _ _ _) (apart_new hw2.out) (by
        intro s hs
        simp at hs
        subst hs
        exact ⟨hsx1.out.alloc _, hap1.out⟩)).mono ?_
      rintro e w3 ⟨ao3, cap3, rfl, hw3, hg3⟩
      have hg4 := hid (((hg'.out.trans hg2.out).alloc _).trans hg3)
      have hw4 := hid hw3
      obtain ⟨cs3, hcs3⟩ : ∃ c, c = cs1 ++ [((xo, xc, xs) : BS)].flatMap (fun s => padded s.2.2) := ⟨_, rfl⟩
      rw [← hcs3] at hw4
      have hcs4 : Hid (cs3 = bs ++ (vs.take (k + 1)).flatMap fun s => row s.2.2) := by
        rw [hcs3, hcs1'.out, HS.out, hcs'.out.out]; simp [row, bes_one, Hid]
      have hcl4 : Hid (cs3.length ≤ bs.length + (T + 7) * (k + 1)) := by
        have h1 := hcl.out
        have h2 := padded_length xs
        have h3 : cs3.length = cs1.length + (padded xs).length := by rw [hcs3]; simp
        rw [Hid, Nat.mul_add]
        omega
      clear hcs3 hw3 hg3
      go_wp2
      go_roundw
      case rel => exact ⟨k + 1, ao3, cap3, cs3, by omega, by go_num, hcs4, hcl4, hw4.out, hg4.out⟩
      case measure => simp [intOf]; omega
    · have hcs2 : cs = bs ++ vs.flatMap fun s => row s.2.2 := by rw [hcs.out, List.take_of_length_le (by omega)]
      clear hcs
      go_wp2
      go_end0
      subst hcs2
      exact ⟨ao', cap', rfl, hw, hg⟩

/-! ### The reference's writer -/
set_option maxHeartbeats 400000 in
theorem RU32_any (p : Nat) (ao : Option Addr) (cap : Nat) (bs : List UInt8) (x : Int) (w : World) (h : WR w p ao cap bs) (hlen : bs.length ≤ 20000000) (hx : 0 ≤ x ∧ x < 4294967296) :
    Calls Try.prog 42 #[.pointer (some ⟨p, 0, none⟩), .int .u32 x] w (WPost w p ao (bs ++ be 4 x)) := by
  have hc := h.cell
  have hx0 := hx.1
  have hx1 := hx.2
  have H := hid h; have HX := hid hx; clear h hx
  go_enter Try.func42, Try.ntmps42
  go_wp2_with fail
  refine (High_any 4 x ao cap bs w (.inl rfl) (by omega) H.out.own hlen).mono ?_
  rintro e w1 ⟨ao1, cap1, rfl, ho, hg⟩
  have hc1 : w1.cell? ⟨p, 0, none⟩ = some (.slice ao bs.length cap) := hg.mods.cell H.out.cell H.out.sep
  have hz1 : w1.frozen? ⟨p, 0, none⟩ = false := (World.frozen?_of_block (w := w) (hg.mods.block p H.out.lt H.out.sep)).trans H.out.free
  have hsep : ¬ blk ao1 p := fun hk => by
    rcases hg.fresh p hk with h | h
    · exact H.out.sep h
    · have := H.out.lt; omega
  obtain ⟨cs, hcs⟩ : ∃ c, c = bs ++ be 4 x := ⟨_, rfl⟩
  rw [← hcs] at ho ⊢
  have hset := hid (WR.set2 hc1 hz1 ho hsep)
  have hg3 : Hid (WGrew w p ao w1 ao1) := ⟨hg.mods.mono fun k _ h => .inr h, hg.fresh⟩
  have hcs' := hid hcs
  clear hcs ho hsep hg
  go_wp2
  go_end0
  obtain rfl := hcs'.out
  exact ⟨ao1, cap1, rfl, hset.out, hg3.out.set _ hg3.out.fresh⟩

set_option maxHeartbeats 400000 in
theorem RU64_any (p : Nat) (ao : Option Addr) (cap : Nat) (bs : List UInt8) (x : Int) (w : World) (h : WR w p ao cap bs) (hlen : bs.length ≤ 20000000) (hx : 0 ≤ x ∧ x < 18446744073709551616) :
    Calls Try.prog 43 #[.pointer (some ⟨p, 0, none⟩), .int .u64 x] w (WPost w p ao (bs ++ be 8 x)) := by
  have hc := h.cell
  have hx0 := hx.1
  have hx1 := hx.2
  have H := hid h; have HX := hid hx; clear h hx
  go_enter Try.func43, Try.ntmps43
  go_wp2_with fail
  refine (High_any 8 x ao cap bs w (.inr rfl) (by omega) H.out.own hlen).mono ?_
  rintro e w1 ⟨ao1, cap1, rfl, ho, hg⟩
  have hc1 : w1.cell? ⟨p, 0, none⟩ = some (.slice ao bs.length cap) := hg.mods.cell H.out.cell H.out.sep
  have hz1 : w1.frozen? ⟨p, 0, none⟩ = false := (World.frozen?_of_block (w := w) (hg.mods.block p H.out.lt H.out.sep)).trans H.out.free
  have hsep : ¬ blk ao1 p := fun hk => by
    rcases hg.fresh p hk with h | h
    · exact H.out.sep h
    · have := H.out.lt; omega
  obtain ⟨cs, hcs⟩ : ∃ c, c = bs ++ be 8 x := ⟨_, rfl⟩
  rw [← hcs] at ho ⊢
  have hset := hid (WR.set2 hc1 hz1 ho hsep)
  have hg3 : Hid (WGrew w p ao w1 ao1) := ⟨hg.mods.mono fun k _ h => .inr h, hg.fresh⟩
  have hcs' := hid hcs
  clear hcs ho hsep hg
  go_wp2
  go_end0
  obtain rfl := hcs'.out
  exact ⟨ao1, cap1, rfl, hset.out, hg3.out.set _ hg3.out.fresh⟩


set_option maxHeartbeats 400000 in
theorem RBool_any (p : Nat) (ao : Option Addr) (cap : Nat) (bs : List UInt8) (x : Bool) (w : World) (h : WR w p ao cap bs) (hlen : bs.length ≤ 20000000) :
    Calls Try.prog 40 #[.pointer (some ⟨p, 0, none⟩), .bool x] w (WPost w p ao (bs ++ be 4 (boolNum x))) := by
  have H := hid h; clear h
  cases x
  all_goals
    go_enter Try.func40, Try.ntmps40
    go_wp2_with fail
    refine (RU32_any p ao cap bs _ w H.out hlen (by decide)).mono ?_
    rintro e w1 ⟨ao1, cap1, rfl, hw, hg⟩
    have hw' := hid hw; have hg' := hid hg; clear hw hg
    go_wp2
    go_end0
    exact ⟨ao1, cap1, rfl, hw'.out, hg'.out⟩

set_option maxHeartbeats 400000 in
theorem RFixed_any (p : Nat) (ao : Option Addr) (cap : Nat) (bs : List UInt8) (xo : Option Addr) (xc : Nat) (xs : List UInt8) (w : World) (h : WR w p ao cap bs) (hlen : bs.length + xs.length ≤ 20000000) (hx : SlB w xo xc xs) :
    Calls Try.prog 84 #[.pointer (some ⟨p, 0, none⟩), .slice xo xs.length xc] w (WPost w p ao (bs ++ padded xs)) := by
  have hc := h.cell
  have hz := h.free
  have H := hid h; have HX := hid hx; clear h hx
  go_enter Try.func84, Try.ntmps84
  go_wp2_with (at_builtin; refine wpList_appB _ rfl _ _ rfl _ _ _ bs rfl rfl H.out.own _ _ _ xs rfl rfl HX.out ?c1 ?_)
  case c1 => omega
  intro ao1 cap1 cs1 w1 hcs1 ho hg
  have hc1 : w1.cell? ⟨p, 0, none⟩ = some (.slice ao bs.length cap) := hg.mods.cell H.out.cell H.out.sep
  have hz1 : w1.frozen? ⟨p, 0, none⟩ = false := (World.frozen?_of_block (w := w) (hg.mods.block p H.out.lt H.out.sep)).trans H.out.free
  have hsep : ¬ blk ao1 p := fun hk => by
    rcases hg.fresh p hk with h | h
    · exact H.out.sep h
    · have := H.out.lt; omega
  have hset := hid (WR.set2 hc1 hz1 ho hsep)
  have hg3 := hid ((⟨hg.mods.mono fun k _ h => .inr h, hg.fresh⟩ : WGrew w p ao w1 ao1).set (.slice ao1 cs1.length cap1) hg.fresh)
  have hl1 : cs1.length ≤ bs.length + xs.length := by rw [hcs1.out]; simp
  have hc2 := hset.out.cell
  have hpad : ((4 : Int) - (xs.length : Int) % 4) % 4 = ((pad xs.length : Nat) : Int) := by unfold pad; omega
  have hpl : pad xs.length ≤ 3 := by unfold pad; omega
  clear ho hsep hg hc
  go_wp2_with fail
  refine (Noughts_any (pad xs.length) ao1 cap1 cs1 _ (by omega) hset.out.own (by omega)).mono ?_
  rintro e w2 ⟨ao2, cap2, rfl, ho2, hg2⟩
  have H2 := hset.out
  have hc3 : w2.cell? ⟨p, 0, none⟩ = some (.slice ao1 cs1.length cap1) := hg2.mods.cell H2.cell H2.sep
  have hz3 : w2.frozen? ⟨p, 0, none⟩ = false := (World.frozen?_of_block (hg2.mods.block p H2.lt H2.sep)).trans H2.free
  have hsep2 : ¬ blk ao2 p := fun hk => by
    rcases hg2.fresh p hk with h | h
    · exact H2.sep h
    · have := H2.lt; omega
  obtain ⟨cs2, hcs2⟩ : ∃ c, c = cs1 ++ List.replicate (pad xs.length) 0 := ⟨_, rfl⟩
  rw [← hcs2] at ho2 ⊢
  have hset2 := hid (WR.set2 hc3 hz3 ho2 hsep2)
  have hg4 := hid (hg3.out.trans (⟨hg2.mods.mono fun k _ h => .inr h, hg2.fresh⟩ : WGrew _ p ao1 w2 ao2))
  have hcs3 : Hid (cs2 = bs ++ padded xs) := by rw [hcs2, hcs1.out]; simp [padded, Hid]
  clear hcs2 ho2 hsep2 hg2 H2 hcs1 hc1 hz1 hc2
  go_wp2
  go_end0
  obtain rfl := hcs3.out
  exact ⟨ao2, cap2, rfl, hset2.out, hg4.out.set _ hg4.out.fresh⟩

set_option maxHeartbeats 400000 in
theorem RBytes_any (p : Nat) (ao : Option Addr) (cap : Nat) (bs : List UInt8) (xo : Option Addr) (xc : Nat) (xs : List UInt8) (w : World) (h : WR w p ao cap bs) (hlen : bs.length + xs.length + 8 ≤ 20000000) (hx : SlB w xo xc xs)
    (hd : ∀ k, rb xo xs.length k → k ≠ p ∧ ¬ blk ao k) :
    Calls Try.prog 66 #[.pointer (some ⟨p, 0, none⟩), .slice xo xs.length xc] w (WPost w p ao (bs ++ row xs)) := by
  have H := hid h; have HX := hid hx; have HD := hid hd; clear h hx hd
  go_enter Try.func66, Try.ntmps66
  go_wp2_with fail
  refine (RU32_any p ao cap bs _ w H.out (by omega) (by omega)).mono ?_
  rintro e w1 ⟨ao1, cap1, rfl, hw, hg⟩
  have hw' := hid hw; have hg' := hid hg; have HX1 := hid (HX.out.wkeep HD.out hg)
  obtain ⟨cs1, hcs1⟩ : ∃ c, c = bs ++ be 4 (xs.length : Int) := ⟨_, rfl⟩
  rw [← hcs1] at hw'
  have hl1 : cs1.length = bs.length + 4 := by rw [hcs1]; simp [be_length]
  have hl1' : cs1.length ≤ bs.length + 4 := by omega
  have hcs1' := hid hcs1
  clear hw hg hl1 hcs1
  go_wp2_with fail
  refine (RFixed_any p ao1 cap1 cs1 xo xc xs w1 hw'.out (by omega) HX1.out).mono ?_
  rintro e w2 ⟨ao2, cap2, rfl, hw2, hg2⟩
  obtain ⟨cs2, hcs2⟩ : ∃ c, c = cs1 ++ padded xs := ⟨_, rfl⟩
  rw [← hcs2] at hw2
  have hcs3 : Hid (cs2 = bs ++ row xs) := by rw [hcs2, hcs1'.out]; simp [row, Hid]
  have hw2' := hid hw2
  have hg3 := hid (hg'.out.trans hg2)
  clear hw2 hg2 hcs2
  go_wp2
  go_end0
  obtain rfl := hcs3.out
  exact ⟨ao2, cap2, rfl, hw2'.out, hg3.out⟩

end Go.Proofs.Ytanknjpcgceccaa
