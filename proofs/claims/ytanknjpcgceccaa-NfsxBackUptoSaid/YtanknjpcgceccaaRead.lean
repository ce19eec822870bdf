/- xdr's and the reference's Reader: each call's contract. -/
import Derived.Test.YtanknjpcgceccaaWriter
import Derived.Deep.QuietTactic
import Derived.BigQuiet
import Derived.Deep.RegionHeld3
namespace Go.Proofs.Ytanknjpcgceccaa
open Go.RowKit

/-- The world, but for draws. -/
def Quiet (w w' : World) : Prop := ∃ n, w' = w.drewN n
theorem Quiet.refl (w : World) : Quiet w w := ⟨0, rfl⟩
theorem drewN_heap (w : World) (n : Nat) : (w.drewN n).heap = w.heap := by
  induction n with
  | zero => rfl
  | succ n ih => simp [World.drewN] at *
theorem Mods.drewN (F : Nat → Prop) (w : World) (n : Nat) : Mods F w (w.drewN n) := by
  have h := drewN_heap w n
  exact ⟨by simp [World.drewN], by simp [World.drewN], by simp [World.drewN], by rw [h]; exact Nat.le_refl _, fun k _ _ => by rw [h]⟩

theorem quiet_same {P : Program} {f : FuncId} {args : Array Value} {w : World} {n : Nat} {v : Value} (h : Calls P f args (w.drewN n) fun e w' => e = .returned v ∧ w.drewN n = w') : Calls P f args (w.drewN n) fun e w'' => e = .returned v ∧ ∃ m, w'' = w.drewN m :=
  h.mono fun _ _ ⟨he, hm⟩ => ⟨he, n, hm.symm⟩
theorem quiet_quiet {P : Program} {f : FuncId} {args : Array Value} {w : World} {n : Nat} {v : Value} (h : Calls P f args (w.drewN n) fun e w' => e = .returned v ∧ Quiet (w.drewN n) w') : Calls P f args (w.drewN n) fun e w'' => e = .returned v ∧ ∃ m, w'' = w.drewN m :=
  h.mono fun _ _ ⟨he, m, hm⟩ => ⟨he, n + m, by rw [hm, World.drewN_drewN]⟩
theorem Quiet.trans {a b c : World} (h : Quiet a b) (g : Quiet b c) : Quiet a c := by
  obtain ⟨n, rfl⟩ := h
  obtain ⟨m, rfl⟩ := g
  exact ⟨n + m, by rw [World.drewN_drewN]⟩

/-- A number out of bytes, the highest first. -/
def beval (l : List UInt8) : Nat := l.foldl (fun v x => v * 256 + x.toNat) 0
theorem beval_snoc (l : List UInt8) (x : UInt8) : beval (l ++ [x]) = beval l * 256 + x.toNat := by simp [beval]
theorem foldl_lt (l : List UInt8) : ∀ v n : Nat, v < 256 ^ n → l.foldl (fun v x => v * 256 + x.toNat) v < 256 ^ (n + l.length) := by
  induction l with
  | nil => intro v n h; simpa using h
  | cons x l ih =>
    intro v n h
    have hx := x.toNat_lt
    have h2 : v * 256 + x.toNat < 256 ^ (n + 1) := by rw [Nat.pow_succ]; omega
    have := ih _ _ h2
    rw [List.foldl_cons, List.length_cons, show n + (l.length + 1) = n + 1 + l.length by omega]
    exact this
theorem beval_lt (l : List UInt8) : beval l < 256 ^ l.length := by
  have := foldl_lt l 0 0 (by decide)
  simpa [beval] using this
theorem or_join (x y : Nat) (hx : x < 72057594037927936) (hy : y < 256) : bits BinOp.or IntKind.u64 ((x : Int) * 256) (y : Int) = ((x * 256 + y : Nat) : Int) := by
  have h := u64_or_nat (x * 256) y (by omega) (by omega)
  rw [nat_join 8 (x * 256) y (by omega) (by omega)] at h
  rw [show ((x : Int) * 256) = ((x * 256 : Nat) : Int) by omega]
  exact h

set_option maxHeartbeats 400000 in
theorem cut_ok (ao : Option Addr) (cap : Nat) (bs : List UInt8) (at_ n : Nat) (w : World) (hb : SlB w ao cap bs) (hn : n = 4 ∨ n = 8) (h : at_ + n ≤ bs.length) (hl : bs.length ≤ 9223372036854775807) :
    Calls Try.prog 104 #[.slice ao bs.length cap, .int .i64 at_, .int .i64 n] w fun e w' => ∃ b o, ao = some ⟨b, o, none⟩ ∧ e = .returned (.tuple #[.slice (some ⟨b, o + at_, none⟩) n (cap - at_), .int .i64 0]) ∧ w = w' := by
  have HN := hid hn
  have hc : bs.length ≤ cap := hb.2.1
  obtain ⟨b, o, rfl, hcell⟩ := hb.at (j := at_) (by omega)
  have hn2 : 4 ≤ n := by omega
  clear hn hcell hb
  go_enter Try.func104, Try.ntmps104
  go_wp2_with (go_at_call 105; refine (num_size_yes _ _ (by have := HN.out; omega)).mono ?_; rintro e w' ⟨rfl, rfl⟩)
  go_ret2
  exact ⟨b, o, rfl, by simp, rfl⟩

set_option maxHeartbeats 400000 in
theorem cut_no (ao : Option Addr) (cap : Nat) (bs : List UInt8) (at_ n : Nat) (w : World) (hn : n = 4 ∨ n = 8) (h : bs.length < at_ + n) (hl : bs.length ≤ 9223372036854775807) :
    Calls Try.prog 104 #[.slice ao bs.length cap, .int .i64 at_, .int .i64 n] w fun e w' => e = .returned (.tuple #[.slice none 0 0, .int .i64 11]) ∧ w = w' := by
  have HN := hid hn
  have hn2 : 4 ≤ n := by omega
  have hn3 : n ≤ 8 := by omega
  clear hn
  go_enter Try.func104, Try.ntmps104
  go_wp2_with (go_at_call 105; refine (num_size_yes _ _ (by have := HN.out; omega)).mono ?_; rintro e w' ⟨rfl, rfl⟩)
  go_ret2
  exact ⟨rfl, rfl⟩

set_option maxHeartbeats 400000 in
theorem Be_any (ao : Option Addr) (cap : Nat) (bs : List UInt8) (at_ n : Nat) (w : World) (hb : SlB w ao cap bs) (hn : n = 4 ∨ n = 8) (h : at_ + n ≤ bs.length) (hl : bs.length ≤ 9223372036854775807) :
    Calls Try.prog 102 #[.slice ao bs.length cap, .int .i64 at_, .int .i64 n] w fun e w' => e = .returned (.tuple #[.int .u64 (beval ((bs.drop at_).take n)), .int .i64 0]) ∧ w = w' := by
  have HN := hid hn
  have HB := hid hb
  have hn2 : 4 ≤ n := by omega
  have hn3 : n ≤ 8 := by omega
  clear hn hb
  go_enter Try.func102, Try.ntmps102
  go_wp2_with (go_at_call 104; refine (cut_ok _ _ _ _ _ _ HB.out HN.out h hl).mono ?_; rintro e w' ⟨b, o, rfl, rfl, rfl⟩)
  go_loop [10, 22] (fun v i => ∃ k x : Nat, k ≤ n ∧ i = .int .i64 (k : Int) ∧ v = .int .u64 (x : Int) ∧ x < 256 ^ k ∧ Hid (x = beval ((bs.drop at_).take k))) (fun _ i => n - (intOf i).toNat)
  case atStart => exact ⟨0, 0, by omega, by go_num, by go_num, by decide, by simp [beval, Hid]⟩
  case round =>
    obtain ⟨k, x, hk, rfl, rfl, hx, hX⟩ := hrel
    by_cases hlt : k < n
    · have hcell : w.cell? ⟨b, o + at_ + k, none⟩ = some (.int .u8 (bs[at_ + k].toNat : Int)) := by
        obtain ⟨b', o', h1, h2⟩ := HB.out.at (j := at_ + k) (by omega)
        simp only [Option.some.injEq, Addr.mk.injEq, and_true] at h1
        obtain ⟨rfl, rfl⟩ := h1
        rw [Nat.add_assoc]
        exact h2
      obtain ⟨y, hy⟩ : ∃ y, y = bs[at_ + k] := ⟨_, rfl⟩
      have hX2 : Hid (x * 256 + y.toNat = beval ((bs.drop at_).take (k + 1))) := by
        rw [List.take_succ_eq_append_getElem (by simp; omega), beval_snoc, ← hX.out]
        simp [hy, Hid]
      rw [← hy] at hcell
      have hyl := y.toNat_lt
      have hpow : 256 ^ k ≤ 256 ^ 7 := Nat.pow_le_pow_right (by decide) (by omega)
      have hx7 : x < 72057594037927936 := by omega
      have HXX := hid hx
      have hor := or_join x y.toNat hx7 hyl
      have hp2 : Hid (x * 256 + y.toNat < 256 ^ (k + 1)) := by rw [Nat.pow_succ]; show _ < _; omega
      clear hX hy hx hpow
      go_wp2
      go_round
      case rel => exact ⟨k + 1, x * 256 + y.toNat, by omega, by go_num, by go_num, hp2, hX2⟩
      case measure => simp [intOf]; omega
    · clear hx
      have hkn : k = n := by omega
      have hX3 : Hid (x = beval ((bs.drop at_).take n)) := by rw [← hkn]; exact hX
      clear hkn hX
      go_wp2
      go_ret2
      obtain rfl := hX3.out
      exact ⟨rfl, rfl⟩

set_option maxHeartbeats 400000 in
theorem Be_no (ao : Option Addr) (cap : Nat) (bs : List UInt8) (at_ n : Nat) (w : World) (hn : n = 4 ∨ n = 8) (h : bs.length < at_ + n) (hl : bs.length ≤ 9223372036854775807) :
    Calls Try.prog 102 #[.slice ao bs.length cap, .int .i64 at_, .int .i64 n] w fun e w' => e = .returned (.tuple #[.int .u64 0, .int .i64 11]) ∧ w = w' := by
  have HN := hid hn
  clear hn
  go_enter Try.func102, Try.ntmps102
  go_wp2_with (go_at_call 104; refine (cut_no _ _ _ _ _ _ HN.out h hl).mono ?_; rintro e w' ⟨rfl, rfl⟩)
  go_rounds 1
  go_ret2
  exact ⟨rfl, rfl⟩

set_option maxHeartbeats 400000 in
theorem RBe_any (ao : Option Addr) (cap : Nat) (bs : List UInt8) (at_ n : Nat) (w : World) (hb : SlB w ao cap bs) (hn : n = 4 ∨ n = 8) (h : at_ + n ≤ bs.length) (hl : bs.length ≤ 9223372036854775807) :
    Calls Try.prog 83 #[.slice ao bs.length cap, .int .i64 at_, .int .i64 n] w fun e w' => e = .returned (.tuple #[.int .u64 (beval ((bs.drop at_).take n)), .int .i64 0]) ∧ w = w' := by
  have HN := hid hn
  have HB := hid hb
  have hn2 : 4 ≤ n := by omega
  have hn3 : n ≤ 8 := by omega
  clear hn hb
  go_enter Try.func83, Try.ntmps83
  go_wp2_with (go_at_call 99; refine (ref_size_yes _ _ (by have := HN.out; omega)).mono ?_; rintro e w' ⟨rfl, rfl⟩)
  go_loop [8, 9] (fun v i => ∃ k x : Nat, k ≤ n ∧ i = .int .i64 (k : Int) ∧ v = .int .u64 (x : Int) ∧ x < 256 ^ k ∧ Hid (x = beval ((bs.drop at_).take k))) (fun _ i => n - (intOf i).toNat)
  case atStart => exact ⟨0, 0, by omega, by go_num, by go_num, by decide, by simp [beval, Hid]⟩
  case round =>
    obtain ⟨k, x, hk, rfl, rfl, hx, hX⟩ := hrel
    by_cases hlt : k < n
    · obtain ⟨b, o, rfl, hcell⟩ := HB.out.at (j := at_ + k) (by omega)
      obtain ⟨y, hy⟩ : ∃ y, y = bs[at_ + k] := ⟨_, rfl⟩
      have hX2 : Hid (x * 256 + y.toNat = beval ((bs.drop at_).take (k + 1))) := by
        rw [List.take_succ_eq_append_getElem (by simp; omega), beval_snoc, ← hX.out]
        simp [hy, Hid]
      rw [← hy] at hcell
      have hyl := y.toNat_lt
      have hpow : 256 ^ k ≤ 256 ^ 7 := Nat.pow_le_pow_right (by decide) (by omega)
      have hx7 : x < 72057594037927936 := by omega
      have hor := or_join x y.toNat hx7 hyl
      have hp2 : Hid (x * 256 + y.toNat < 256 ^ (k + 1)) := by rw [Nat.pow_succ]; show _ < _; omega
      clear hX hy hx hpow
      go_wp2
      go_round
      case rel => exact ⟨k + 1, x * 256 + y.toNat, by omega, by go_num, by go_num, hp2, hX2⟩
      case measure => simp [intOf]; omega
    · clear hx
      have hkn : k = n := by omega
      have hX3 : Hid (x = beval ((bs.drop at_).take n)) := by rw [← hkn]; exact hX
      clear hkn hX
      go_wp2
      go_ret2
      obtain rfl := hX3.out
      exact ⟨rfl, rfl⟩

set_option maxHeartbeats 400000 in
theorem RBe_no (ao : Option Addr) (cap : Nat) (bs : List UInt8) (at_ n : Nat) (w : World) (hn : n = 4 ∨ n = 8) (h : bs.length < at_ + n) (hat : at_ ≤ bs.length) (hl : bs.length ≤ 9223372036854775807) :
    Calls Try.prog 83 #[.slice ao bs.length cap, .int .i64 at_, .int .i64 n] w fun e w' => e = .returned (.tuple #[.int .u64 0, .int .i64 11]) ∧ w = w' := by
  have HN := hid hn
  have hn2 : 4 ≤ n := by omega
  have hn3 : n ≤ 8 := by omega
  clear hn
  go_enter Try.func83, Try.ntmps83
  go_wp2_with (go_at_call 99; refine (ref_size_yes _ _ (by have := HN.out; omega)).mono ?_; rintro e w' ⟨rfl, rfl⟩)
  go_ret2
  exact ⟨rfl, rfl⟩

/-! ### The reader's state: bytes, a place, the first error -/
def rnum (n : Nat) (bs : List UInt8) (at_ : Nat) (err : Int) : Nat × Nat × Int :=
  if err = 0 then (if at_ + n ≤ bs.length then (beval ((bs.drop at_).take n), at_ + n, 0) else (0, at_, 11)) else (0, at_, err)
def rbool (bs : List UInt8) (at_ : Nat) (err : Int) : Bool × Nat × Int :=
  let r := rnum 4 bs at_ err
  if 1 < r.1 then (false, at_, 15) else (r.1 == 1, r.2.1, r.2.2)
/-- n bytes, and noughts behind them. -/
def rfixed (n : Int) (bs : List UInt8) (at_ : Nat) (err : Int) : List UInt8 × Nat × Int :=
  if err = 0 then
    if n < 0 then ([], at_, 1)
    else if bs.length < at_ + (n.toNat + pad n.toNat) then ([], at_, 11)
    else if ((bs.drop (at_ + n.toNat)).take (pad n.toNat)).all (· == 0) then ((bs.drop at_).take n.toNat, at_ + (n.toNat + pad n.toNat), 0) else ([], at_, 15)
  else ([], at_, err)
def rbytes (most : Int) (bs : List UInt8) (at_ : Nat) (err : Int) : List UInt8 × Nat × Int :=
  let r := rnum 4 bs at_ err
  if r.2.2 = 0 then
    if most < r.1 then ([], at_, 5)
    else
      let f := rfixed r.1 bs r.2.1 0
      if f.2.2 = 0 then f else ([], at_, f.2.2)
  else ([], at_, r.2.2)

structure RD (w : World) (r : Nat) (ao : Option Addr) (cap : Nat) (bs : List UInt8) (at_ : Nat) (err : Int) : Prop where
  obj : ∃ T, w.heap[r]? = some (.cells #[.slice ao bs.length cap, .int .i64 at_, .int .i64 err] T (0, 0))
  sl : SlB w ao cap bs
  sep : ∀ k, rb ao bs.length k → k ≠ r
  le : at_ ≤ bs.length
  big : bs.length ≤ 1000000000

section
variable {w : World} {r : Nat} {ao : Option Addr} {cap : Nat} {bs : List UInt8} {at_ : Nat} {err : Int}
theorem RD.lt (h : RD w r ao cap bs at_ err) : r < w.heap.size := by obtain ⟨T, h⟩ := h.obj; exact lt_of_heap h
theorem RD.c0 (h : RD w r ao cap bs at_ err) : w.cell? ⟨r, 0, none⟩ = some (.slice ao bs.length cap) := by obtain ⟨T, h⟩ := h.obj; simp [World.cell?, h]
theorem RD.c1 (h : RD w r ao cap bs at_ err) : w.cell? ⟨r, 1, none⟩ = some (.int .i64 at_) := by obtain ⟨T, h⟩ := h.obj; simp [World.cell?, h]
theorem RD.c2 (h : RD w r ao cap bs at_ err) : w.cell? ⟨r, 2, none⟩ = some (.int .i64 err) := by obtain ⟨T, h⟩ := h.obj; simp [World.cell?, h]
theorem RD.f1 (h : RD w r ao cap bs at_ err) : w.frozen? ⟨r, 1, none⟩ = false := by obtain ⟨T, h⟩ := h.obj; simp [World.frozen?, h]
theorem RD.f2 (h : RD w r ao cap bs at_ err) : w.frozen? ⟨r, 2, none⟩ = false := by obtain ⟨T, h⟩ := h.obj; simp [World.frozen?, h]
theorem RD.keep {w' : World} (h : RD w r ao cap bs at_ err) {F : Nat → Prop} (hm : Mods F w w') (hr : ¬ F r) (hF : ∀ k, rb ao bs.length k → ¬ F k) : RD w' r ao cap bs at_ err := by
  obtain ⟨T, ho⟩ := h.obj
  exact ⟨⟨T, hm.obj ho hr⟩, h.sl.keep hm hF, h.sep, h.le, h.big⟩
theorem RD.new {w' : World} (h : RD w r ao cap bs at_ err) (hm : Mods (fun _ => False) w w') : RD w' r ao cap bs at_ err := h.keep hm (fun h => h) fun _ _ h => h
theorem RD.drewN (h : RD w r ao cap bs at_ err) (n : Nat) : RD (w.drewN n) r ao cap bs at_ err := h.new (Mods.drewN _ _ _)
theorem RD.set1 (h : RD w r ao cap bs at_ err) (a' : Nat) (hle : a' ≤ bs.length) : RD (w.setCell ⟨r, 1, none⟩ (.int .i64 a')) r ao cap bs a' err := by
  obtain ⟨T, ho⟩ := h.obj
  refine ⟨⟨T, ?_⟩, h.sl.keep (Mods.setCell (F := fun k => k = r) (a := ⟨r, 1, none⟩) rfl _) (fun k hk e => h.sep k hk e), h.sep, hle, h.big⟩
  simp [World.setCell, Array.getElem?_modify, ho]
theorem RD.set2 (h : RD w r ao cap bs at_ err) (e' : Int) : RD (w.setCell ⟨r, 2, none⟩ (.int .i64 e')) r ao cap bs at_ e' := by
  obtain ⟨T, ho⟩ := h.obj
  refine ⟨⟨T, ?_⟩, h.sl.keep (Mods.setCell (F := fun k => k = r) (a := ⟨r, 2, none⟩) rfl _) (fun k hk e => h.sep k hk e), h.sep, h.le, h.big⟩
  simp [World.setCell, Array.getElem?_modify, ho]
end

/-- What a reader's call leaves. -/
def RPost (w : World) (r : Nat) (ao : Option Addr) (cap : Nat) (bs : List UInt8) (v : Value) (at_ : Nat) (err : Int) (e : Ending) (w' : World) : Prop :=
  e = .returned v ∧ RD w' r ao cap bs at_ err ∧ Mods (fun k => k = r) w w'

set_option maxHeartbeats 400000 in
theorem fail_any (r : Nat) (ao : Option Addr) (cap : Nat) (bs : List UInt8) (at_ : Nat) (err e0 : Int) (w : World) (h : RD w r ao cap bs at_ err) :
    Calls Try.prog 95 #[.pointer (some ⟨r, 0, none⟩), .int .i64 e0] w (RPost w r ao cap bs (.tuple #[]) at_ (if err = 0 then e0 else err)) := by
  have h2 := h.c2
  have hz := h.f2
  have H := hid h; clear h
  by_cases he : err = 0
  · subst he
    rw [if_pos rfl]
    go_enter Try.func95, Try.ntmps95
    go_wp2
    go_end0
    exact ⟨rfl, H.out.set2 e0, Mods.setCell (F := fun k => k = r) (a := ⟨r, 2, none⟩) rfl _⟩
  · rw [if_neg he]
    have he' : (err == 0) = false := by simpa using he
    go_enter Try.func95, Try.ntmps95
    go_wp2
    go_end0
    exact ⟨rfl, H.out, Mods.refl _ _⟩

set_option maxHeartbeats 400000 in
theorem number_any (n : Nat) (r : Nat) (ao : Option Addr) (cap : Nat) (bs : List UInt8) (at_ : Nat) (err : Int) (w : World) (h : RD w r ao cap bs at_ err) (hn : n = 4 ∨ n = 8) :
    Calls Try.prog 94 #[.pointer (some ⟨r, 0, none⟩), .int .i64 n] w (RPost w r ao cap bs (.int .u64 (rnum n bs at_ err).1) (rnum n bs at_ err).2.1 (rnum n bs at_ err).2.2) := by
  have h0 := h.c0
  have h1 := h.c1
  have hle := h.le
  have hbig := h.big
  have H := hid h; have HN := hid hn
  by_cases hfit : at_ + n ≤ bs.length
  · have HB := fun (w' : World) (hw : Quiet w w') => Be_any ao cap bs at_ n w' (by obtain ⟨q, rfl⟩ := hw; exact (H.out.drewN q).sl) HN.out hfit (by omega)
    have HBE := hid HB
    clear HB h hn
    obtain ⟨v, hv⟩ : ∃ v, v = beval ((bs.drop at_).take n) := ⟨_, rfl⟩
    rw [← hv] at HBE
    have hn8 : n ≤ 8 := by have := HN.out; omega
    by_cases he : err = 0
    · have hfin : rnum n bs at_ err = (v, at_ + n, 0) := by rw [hv, he]; simp [rnum, hfit]
      subst he
      rw [hfin]
      clear hv hfin
      go_enter Try.func94, Try.ntmps94
      go_wp2_with fail
      go_quiet ((go_at_call 102; exact quiet_same (HBE.out _ ⟨_, rfl⟩)))
      go_wp2_with fail
      refine (fail_any r ao cap bs at_ 0 0 _ (H.out.drewN _)).mono ?_
      rintro e w1 ⟨rfl, hr, hm⟩
      have hr2 : Hid (RD w1 r ao cap bs at_ 0) := by rw [if_pos rfl] at hr; exact hr
      have hm2 := hid ((Mods.drewN _ w _).trans hm)
      clear hr hm
      have k1 := hr2.out.c1
      have k2 := hr2.out.c2
      have kz := hr2.out.f1
      have hset := hid (hr2.out.set1 (at_ + n) hfit)
      have hm3 := hid (hm2.out.trans (Mods.setCell (F := fun k => k = r) (a := ⟨r, 1, none⟩) rfl (.int .i64 (at_ + n : Nat))))
      have hcast : Hid (((at_ + n : Nat) : Int) = (at_ : Int) + (n : Int)) := by show _ = _; omega
      go_wp2
      go_ret
      rw [hcast.out] at hset hm3
      exact ⟨rfl, hset.out, hm3.out⟩
    · have hfin : rnum n bs at_ err = (0, at_, err) := by simp [rnum, he]
      have he' : (err != 0) = true := by simpa using he
      rw [hfin]
      clear hv hfin
      go_enter Try.func94, Try.ntmps94
      go_wp2_with fail
      go_quiet ((go_at_call 102; exact quiet_same (HBE.out _ ⟨_, rfl⟩)))
      go_wp2_with fail
      refine (fail_any r ao cap bs at_ err 0 _ (H.out.drewN _)).mono ?_
      rintro e w1 ⟨rfl, hr, hm⟩
      have hr2 : Hid (RD w1 r ao cap bs at_ err) := by rw [if_neg he] at hr; exact hr
      have hm2 := hid ((Mods.drewN _ w _).trans hm)
      clear hr hm
      have k2 := hr2.out.c2
      go_wp2
      go_ret
      exact ⟨rfl, hr2.out, hm2.out⟩
  · have HB := fun (w' : World) => Be_no ao cap bs at_ n w' HN.out (by omega) (by omega)
    have HBE := hid HB
    clear HB h hn
    have hfin : rnum n bs at_ err = (0, at_, if err = 0 then 11 else err) := by
      by_cases he : err = 0
      · simp [rnum, hfit, he]
      · simp [rnum, he]
    have hne : ((if err = 0 then (11 : Int) else err) != 0) = true := by
      by_cases he : err = 0
      · simp [he]
      · simp [he]
    rw [hfin]
    clear hfin
    obtain ⟨err', he'⟩ : ∃ e, e = if err = 0 then (11 : Int) else err := ⟨_, rfl⟩
    rw [← he'] at hne
    have HF := hid (fun (w' : World) h => fail_any r ao cap bs at_ err 11 w' h)
    rw [← he'] at HF
    rw [← he']
    clear he'
    go_enter Try.func94, Try.ntmps94
    go_wp2_with fail
    go_quiet ((go_at_call 102; exact quiet_same (HBE.out _)))
    go_wp2_with fail
    refine (HF.out _ (H.out.drewN _)).mono ?_
    rintro e w1 ⟨rfl, hr, hm⟩
    have hr2 := hid hr
    have hm2 := hid ((Mods.drewN _ w _).trans hm)
    clear hr hm
    have k2 := hr2.out.c2
    go_wp2
    go_ret
    exact ⟨rfl, hr2.out, hm2.out⟩

end Go.Proofs.Ytanknjpcgceccaa

/- xdr's Reader: its methods. -/
namespace Go.Proofs.Ytanknjpcgceccaa
open Go.RowKit

set_option maxHeartbeats 400000 in
theorem Err_any (r : Nat) (ao : Option Addr) (cap : Nat) (bs : List UInt8) (at_ : Nat) (err : Int) (w : World) (h : RD w r ao cap bs at_ err) :
    Calls Try.prog 60 #[.pointer (some ⟨r, 0, none⟩)] w fun e w' => e = .returned (.int .i64 err) ∧ w = w' := by
  have h2 := h.c2
  clear h
  go_enter Try.func60, Try.ntmps60
  go_wp2
  go_ret
  exact ⟨rfl, rfl⟩

set_option maxHeartbeats 400000 in
theorem Left_any (r : Nat) (ao : Option Addr) (cap : Nat) (bs : List UInt8) (at_ : Nat) (err : Int) (w : World) (h : RD w r ao cap bs at_ err) :
    Calls Try.prog 61 #[.pointer (some ⟨r, 0, none⟩)] w fun e w' => e = .returned (.int .i64 ((bs.length : Int) - (at_ : Int))) ∧ Quiet w w' := by
  have h0 := h.c0
  have h1 := h.c1
  have hle := h.le
  have hbig := h.big
  clear h
  go_enter Try.func61, Try.ntmps61
  go_wp2
  go_quiet (fail)
  go_wp2
  go_ret
  exact ⟨by go_num, _, rfl⟩

set_option maxHeartbeats 400000 in
theorem RLeft_any (r : Nat) (ao : Option Addr) (cap : Nat) (bs : List UInt8) (at_ : Nat) (err : Int) (w : World) (h : RD w r ao cap bs at_ err) :
    Calls Try.prog 35 #[.pointer (some ⟨r, 0, none⟩)] w fun e w' => e = .returned (.int .i64 ((bs.length : Int) - (at_ : Int))) ∧ Quiet w w' := by
  have h0 := h.c0
  have h1 := h.c1
  have hle := h.le
  have hbig := h.big
  clear h
  go_enter Try.func35, Try.ntmps35
  go_wp2
  go_quiet (fail)
  go_wp2
  go_ret
  exact ⟨by go_num, _, rfl⟩

theorem rnum4_lt (bs : List UInt8) (at_ : Nat) (err : Int) : (rnum 4 bs at_ err).1 < 4294967296 := by
  unfold rnum
  split
  · split
    · have := beval_lt ((bs.drop at_).take 4)
      have h2 : ((bs.drop at_).take 4).length ≤ 4 := List.length_take_le _ _
      have h3 : 256 ^ ((bs.drop at_).take 4).length ≤ 256 ^ 4 := Nat.pow_le_pow_right (by decide) h2
      simp only
      omega
    · simp
  · simp
theorem rnum8_lt (bs : List UInt8) (at_ : Nat) (err : Int) : (rnum 8 bs at_ err).1 < 18446744073709551616 := by
  unfold rnum
  split
  · split
    · have := beval_lt ((bs.drop at_).take 8)
      have h2 : ((bs.drop at_).take 8).length ≤ 8 := List.length_take_le _ _
      have h3 : 256 ^ ((bs.drop at_).take 8).length ≤ 256 ^ 8 := Nat.pow_le_pow_right (by decide) h2
      simp only
      omega
    · simp
  · simp

set_option maxHeartbeats 400000 in
theorem RDU32_any (r : Nat) (ao : Option Addr) (cap : Nat) (bs : List UInt8) (at_ : Nat) (err : Int) (w : World) (h : RD w r ao cap bs at_ err) :
    Calls Try.prog 78 #[.pointer (some ⟨r, 0, none⟩)] w (RPost w r ao cap bs (.int .u32 (rnum 4 bs at_ err).1) (rnum 4 bs at_ err).2.1 (rnum 4 bs at_ err).2.2) := by
  have hlt := rnum4_lt bs at_ err
  have hN := number_any 4 r ao cap bs at_ err w h (.inl rfl)
  generalize rnum 4 bs at_ err = q at hlt hN ⊢
  obtain ⟨v, a', e'⟩ := q
  simp only at hlt hN ⊢
  have HN := hid hN
  have hc := h.c0
  clear hN h
  go_enter Try.func78, Try.ntmps78
  go_wp2_with fail
  refine HN.out.mono ?_
  rintro e w1 ⟨rfl, hr, hm⟩
  have hr2 := hid hr
  have hm2 := hid hm
  clear hr hm
  go_wp2
  go_ret
  exact ⟨rfl, hr2.out, hm2.out⟩

set_option maxHeartbeats 400000 in
theorem RDU64_any (r : Nat) (ao : Option Addr) (cap : Nat) (bs : List UInt8) (at_ : Nat) (err : Int) (w : World) (h : RD w r ao cap bs at_ err) :
    Calls Try.prog 80 #[.pointer (some ⟨r, 0, none⟩)] w (RPost w r ao cap bs (.int .u64 (rnum 8 bs at_ err).1) (rnum 8 bs at_ err).2.1 (rnum 8 bs at_ err).2.2) := by
  have hN := number_any 8 r ao cap bs at_ err w h (.inr rfl)
  generalize rnum 8 bs at_ err = q at hN ⊢
  obtain ⟨v, a', e'⟩ := q
  simp only at hN ⊢
  have HN := hid hN
  have hc := h.c0
  clear hN h
  go_enter Try.func80, Try.ntmps80
  go_wp2_with fail
  refine HN.out.mono ?_
  rintro e w1 ⟨rfl, hr, hm⟩
  have hr2 := hid hr
  have hm2 := hid hm
  clear hr hm
  go_wp2
  go_ret
  exact ⟨rfl, hr2.out, hm2.out⟩

theorem rnum_pos {n : Nat} {bs : List UInt8} {at_ : Nat} {err : Int} (h : 0 < (rnum n bs at_ err).1) : (rnum n bs at_ err).2.2 = 0 := by
  unfold rnum at *
  split
  · rename_i he
    rw [if_pos he] at h
    split
    · rfl
    · rename_i hf; rw [if_neg hf] at h; simp at h
  · rename_i he; rw [if_neg he] at h; simp at h
theorem rnum_le {n : Nat} {bs : List UInt8} {at_ : Nat} {err : Int} (h : at_ ≤ bs.length) : (rnum n bs at_ err).2.1 ≤ bs.length := by
  unfold rnum
  split
  · split <;> simp_all
  · exact h

set_option maxHeartbeats 400000 in
theorem RDBool_any (r : Nat) (ao : Option Addr) (cap : Nat) (bs : List UInt8) (at_ : Nat) (err : Int) (w : World) (h : RD w r ao cap bs at_ err) :
    Calls Try.prog 76 #[.pointer (some ⟨r, 0, none⟩)] w (RPost w r ao cap bs (.bool (rbool bs at_ err).1) (rbool bs at_ err).2.1 (rbool bs at_ err).2.2) := by
  have hN := number_any 4 r ao cap bs at_ err w h (.inl rfl)
  have hpos := @rnum_pos 4 bs at_ err
  have hlt := rnum4_lt bs at_ err
  have hle := h.le
  unfold rbool
  generalize rnum 4 bs at_ err = q at hN hpos hlt ⊢
  obtain ⟨v, a', e'⟩ := q
  simp only at hN hpos hlt ⊢
  have HN := hid hN
  have h1 := h.c1
  have hc := h.c0
  clear hN h
  by_cases hv : 1 < v
  · obtain rfl : e' = 0 := hpos (by omega)
    rw [if_pos hv]
    clear hpos
    go_enter Try.func76, Try.ntmps76
    go_wp2_with fail
    refine HN.out.mono ?_
    rintro e w1 ⟨rfl, hr, hm⟩
    have hr2 := hid (hr.set1 at_ hle)
    have hm2 := hid (hm.trans (Mods.setCell (F := fun k => k = r) (a := ⟨r, 1, none⟩) rfl (.int .i64 at_)))
    have k1 := hr.c1
    have kz := hr.f1
    clear hr hm
    go_wp2_with fail
    refine (fail_any r ao cap bs at_ 0 15 _ hr2.out).mono ?_
    rintro e w2 ⟨rfl, hr3, hm3⟩
    have hr4 := hid hr3
    have hm4 := hid (hm2.out.trans hm3)
    have hv1 : ((v : Int) == 1) = false := by rw [beq_eq_false_iff_ne]; omega
    clear hr3 hm3
    go_wp2
    go_ret
    exact ⟨rfl, hr4.out, hm4.out⟩
  · rw [if_neg hv]
    clear hpos
    have hv1 : Hid ((v == 1) = ((v : Int) == 1)) := by
      by_cases h : v = 1
      · subst h; rfl
      · show _ = _; rw [show (v == 1) = false by simpa using h, show ((v : Int) == 1) = false by rw [beq_eq_false_iff_ne]; omega]
    go_enter Try.func76, Try.ntmps76
    go_wp2_with fail
    refine HN.out.mono ?_
    rintro e w1 ⟨rfl, hr, hm⟩
    have hr2 := hid hr
    have hm2 := hid hm
    clear hr hm
    go_wp2
    go_ret
    rw [hv1.out]
    exact ⟨rfl, hr2.out, hm2.out⟩

/-- A slice cut out of a slice that is read, at whatever address it is said to lie. -/
theorem SlB.sub {w : World} {b o cap : Nat} {bs : List UInt8} (h : SlB w (some ⟨b, o, none⟩) cap bs) (lo n : Nat) (hn : lo + n ≤ bs.length) {a : Addr} (ha : n ≠ 0 → a = ⟨b, o + lo, none⟩) :
    SlB w (some a) (cap - lo) ((bs.drop lo).take n) := by
  have hl : ((bs.drop lo).take n).length = n := by simp; omega
  have hc : bs.length ≤ cap := h.2.1
  refine ⟨by simp, by rw [hl]; omega, by simp, fun j u hu => ?_⟩
  have hj : j < n := by
    have := (List.getElem?_eq_some_iff.1 hu).1
    simp at this; omega
  have ha' := ha (by omega)
  subst ha'
  refine ⟨b, o + lo, rfl, ?_⟩
  obtain ⟨b', o', h1, h2⟩ := h.at (j := lo + j) (by omega)
  simp only [Option.some.injEq, Addr.mk.injEq, and_true] at h1
  obtain ⟨rfl, rfl⟩ := h1
  rw [Nat.add_assoc, h2]
  rw [List.getElem?_map] at hu
  have : ((bs.drop lo).take n)[j]? = some bs[lo + j] := by
    rw [List.getElem?_take, if_pos hj, List.getElem?_drop]; simp
  rw [this] at hu
  simpa [B] using hu

/-- What a reader that hands bytes back leaves. -/
def FPost (w : World) (r : Nat) (ao : Option Addr) (cap : Nat) (bs : List UInt8) (out : List UInt8) (at_ : Nat) (err : Int) (e : Ending) (w' : World) : Prop :=
  ∃ xo xc, e = .returned (.slice xo out.length xc) ∧ OwnB w' xo xc out ∧ (∀ k, blk xo k → w.heap.size ≤ k) ∧ RD w' r ao cap bs at_ err ∧ Mods (fun k => k = r) w w'

set_option maxHeartbeats 1000000 in
theorem RDFixed_neg (n : Int) (hn : n < 0) (hn2 : -9223372036854775808 ≤ n) (r : Nat) (ao : Option Addr) (cap : Nat) (bs : List UInt8) (at_ : Nat) (err : Int) (w : World) (h : RD w r ao cap bs at_ err) :
    Calls Try.prog 97 #[.pointer (some ⟨r, 0, none⟩), .int .i64 n] w (FPost w r ao cap bs (rfixed n bs at_ err).1 (rfixed n bs at_ err).2.1 (rfixed n bs at_ err).2.2) := by
  have hfin : rfixed n bs at_ err = ([], at_, if err = 0 then 1 else err) := by
    unfold rfixed
    by_cases he : err = 0
    · simp [he, hn]
    · simp [he]
  rw [hfin]
  have hF := fail_any r ao cap bs at_ err 1 w h
  have hne : ((if err = 0 then (1 : Int) else err) != 0) = true := by
    by_cases he : err = 0
    · simp [he]
    · simp [he]
  generalize (if err = 0 then (1 : Int) else err) = e' at hF hne ⊢
  have HF := hid hF
  have hc := h.c0
  clear hF hfin h
  go_enter Try.func97, Try.ntmps97
  go_wp2_with fail
  refine HF.out.mono ?_
  rintro e w1 ⟨rfl, hr, hm⟩
  have k2 := hr.c2
  have hr2 := hid hr
  have hm2 := hid hm
  clear hr hm
  go_wp2
  go_ret
  exact ⟨none, 0, rfl, OwnB.nil _, fun _ h => h.elim, hr2.out, hm2.out⟩

set_option maxHeartbeats 1000000 in
theorem RDFixed_cut (n : Nat) (hn : n ≤ 9223372036854775807) (r : Nat) (ao : Option Addr) (cap : Nat) (bs : List UInt8) (at_ : Nat) (err : Int) (w : World) (h : RD w r ao cap bs at_ err) (hcut : bs.length < at_ + (n + pad n)) :
    Calls Try.prog 97 #[.pointer (some ⟨r, 0, none⟩), .int .i64 n] w (FPost w r ao cap bs (rfixed n bs at_ err).1 (rfixed n bs at_ err).2.1 (rfixed n bs at_ err).2.2) := by
  have hn0 : ¬ ((n : Int) < 0) := by omega
  have hfin : rfixed n bs at_ err = ([], at_, if err = 0 then 11 else err) := by
    unfold rfixed
    by_cases he : err = 0
    · simp only [he, if_true, if_neg hn0, Int.toNat_natCast, if_pos hcut]
    · simp [he]
  rw [hfin]
  have hF := fun (w' : World) h => fail_any r ao cap bs at_ err 11 w' h
  have hne : ((if err = 0 then (11 : Int) else err) != 0) = true := by
    by_cases he : err = 0
    · simp [he]
    · simp [he]
  generalize (if err = 0 then (11 : Int) else err) = e' at hF hne ⊢
  have HF := hid hF
  have HL := hid (Left_any r ao cap bs at_ err w h)
  have hc := h.c0
  have hle := h.le
  have hbig := h.big
  have H := hid h
  have hband : bits BinOp.and IntKind.i64 (-(n : Int)) 3 = ((pad n : Nat) : Int) := by rw [i64_and3]; unfold pad; omega
  have hpl : pad n ≤ 3 := by unfold pad; omega
  clear hF hfin h
  go_enter Try.func97, Try.ntmps97
  go_wp2_with fail
  refine HL.out.mono ?_
  rintro e w0 ⟨rfl, hq⟩
  obtain ⟨q, rfl⟩ := hq
  go_wp2_with fail
  refine (HF.out _ (H.out.drewN q)).mono ?_
  rintro e w1 ⟨rfl, hr, hm⟩
  have k2 := hr.c2
  have hr2 := hid hr
  have hm2 := hid ((Mods.drewN _ w q).trans hm)
  clear hr hm
  go_wp2
  go_ret
  exact ⟨none, 0, rfl, OwnB.nil _, fun _ h => h.elim, hr2.out, hm2.out⟩

set_option maxHeartbeats 1000000 in
theorem RDFixed_err (n : Nat) (hn : n ≤ 9223372036854775807) (r : Nat) (ao : Option Addr) (cap : Nat) (bs : List UInt8) (at_ : Nat) (err : Int) (w : World) (h : RD w r ao cap bs at_ err) (hcut : at_ + (n + pad n) ≤ bs.length) (he : err ≠ 0) :
    Calls Try.prog 97 #[.pointer (some ⟨r, 0, none⟩), .int .i64 n] w (FPost w r ao cap bs (rfixed n bs at_ err).1 (rfixed n bs at_ err).2.1 (rfixed n bs at_ err).2.2) := by
  have hfin : rfixed n bs at_ err = ([], at_, err) := by simp [rfixed, he]
  rw [hfin]
  have HL := hid (Left_any r ao cap bs at_ err w h)
  have hc := h.c0
  have hc2 := h.c2
  have hle := h.le
  have hbig := h.big
  have H := hid h
  have hband : bits BinOp.and IntKind.i64 (-(n : Int)) 3 = ((pad n : Nat) : Int) := by rw [i64_and3]; unfold pad; omega
  have hpl : pad n ≤ 3 := by unfold pad; omega
  have he' : (err != 0) = true := by simpa using he
  clear hfin h
  go_enter Try.func97, Try.ntmps97
  go_wp2_with fail
  refine HL.out.mono ?_
  rintro e w0 ⟨rfl, hq⟩
  obtain ⟨q, rfl⟩ := hq
  go_wp2
  go_ret
  exact ⟨none, 0, rfl, OwnB.nil _, fun _ h => h.elim, H.out.drewN q, Mods.drewN _ w q⟩

theorem pad_zero : pad 0 = 0 := by decide

set_option maxHeartbeats 1000000 in
theorem RDFixed_empty (r : Nat) (ao : Option Addr) (cap : Nat) (w : World) (h : RD w r ao cap [] 0 0) :
    Calls Try.prog 97 #[.pointer (some ⟨r, 0, none⟩), .int .i64 0] w (FPost w r ao cap [] [] 0 0) := by
  have HL := hid (Left_any r ao cap [] 0 0 w h)
  have hc0 : w.cell? ⟨r, 0, none⟩ = some (.slice ao 0 cap) := h.c0
  have hc1 : w.cell? ⟨r, 1, none⟩ = some (.int .i64 0) := h.c1
  have hc2 := h.c2
  have hf1 := h.f1
  have H := hid h
  have hnil : ao = none → cap = 0 := h.sl.2.2.1
  clear h
  have HCL := fun (w' : World) (xo : Option Addr) (xc : Nat) (hx : xo = none → xc = 0) => Clone_any xo xc [] w' ⟨rfl, Nat.zero_le _, hx, fun j u hu => by simp at hu⟩ (by simp)
  have HC := hid HCL
  clear HCL
  have hband : bits BinOp.and IntKind.i64 0 3 = 0 := by rw [i64_and3]; rfl
  have hw0 : IntKind.i64.wrap 0 = 0 := by rw [IntKind.wrap_i64]; omega
  have cases3 : (ao = none ∧ cap = 0) ∨ (∃ a, ao = some a ∧ cap = 0) ∨ (∃ a, ao = some a ∧ 0 < cap) := by
    rcases ao with _ | a
    · exact .inl ⟨rfl, hnil rfl⟩
    · rcases Nat.eq_zero_or_pos cap with h | h
      · exact .inr (.inl ⟨a, rfl, h⟩)
      · exact .inr (.inr ⟨a, rfl, h⟩)
  clear hnil
  rcases cases3 with ⟨rfl, rfl⟩ | ⟨a, rfl, rfl⟩ | ⟨a, rfl, hpos⟩
  · go_enter Try.func97, Try.ntmps97
    go_wp2_with fail
    refine HL.out.mono ?_
    rintro e w0 ⟨rfl, hq⟩
    obtain ⟨q, rfl⟩ := hq
    go_wp2
    go_quiet (fail)
    go_wp2
    go_rounds 1
    go_wp2_with fail
    go_region_held3 (fun w' => w'.cell? ⟨r, 0, none⟩ = some (.slice none 0 0) ∧ w'.cell? ⟨r, 1, none⟩ = some (.int .i64 0))
      (first | exact ⟨hc0, hc1⟩ | exact ⟨hc0', hc1'⟩)
      (first | (go_at_call 50; refine (HC.out _ _ _ (by simp)).mono ?_; rintro e w4 ⟨ao4, cap4, rfl, ho4, hg4⟩; have hm4 := (Mods.drewN (fun k => k = r) w _).trans ((Mods.drew _ _).trans (hg4.mods.mono fun _ _ h => h.elim)); have H4 := H.out.new ((Mods.drewN _ w _).trans ((Mods.drew _ _).trans hg4.mods)); have hc0' := H4.c0; have hc1' := H4.c1))
    have kz := H4.f1
    have ho5 := hid (ho4.keep (Mods.setCell (F := fun k => k = r) (a := ⟨r, 1, none⟩) rfl (.int .i64 0)) (fun k hk e => by
      have := H.out.lt
      rcases hg4.fresh k hk with h | h
      · exact h
      · simp [drewN_heap] at h; omega))
    have hf5 : Hid (∀ k, blk ao4 k → w.heap.size ≤ k) := fun k hk => by
      rcases hg4.fresh k hk with h | h
      · exact h.elim
      · simpa [drewN_heap] using h
    have hset := hid (H4.set1 0 (Nat.zero_le _))
    have hm5 := hid (hm4.trans (Mods.setCell (F := fun k => k = r) (a := ⟨r, 1, none⟩) rfl (.int .i64 0)))
    clear H4 hm4 hg4 ho4
    go_wp2
    go_ret
    exact ⟨ao4, cap4, rfl, ho5.out, hf5.out, hset.out, hm5.out⟩
  · go_enter Try.func97, Try.ntmps97
    go_wp2_with fail
    refine HL.out.mono ?_
    rintro e w0 ⟨rfl, hq⟩
    obtain ⟨q, rfl⟩ := hq
    go_wp2
    go_quiet (fail)
    go_wp2
    go_rounds 1
    go_wp2_with fail
    go_region_held3 (fun w' => w'.cell? ⟨r, 0, none⟩ = some (.slice (some a) 0 0) ∧ w'.cell? ⟨r, 1, none⟩ = some (.int .i64 0))
      (first | exact ⟨hc0, hc1⟩ | exact ⟨hc0', hc1'⟩)
      (first | (go_at_call 50; refine (HC.out _ _ _ (by simp)).mono ?_; rintro e w4 ⟨ao4, cap4, rfl, ho4, hg4⟩; have hm4 := (Mods.drewN (fun k => k = r) w _).trans ((Mods.drew _ _).trans (hg4.mods.mono fun _ _ h => h.elim)); have H4 := H.out.new ((Mods.drewN _ w _).trans ((Mods.drew _ _).trans hg4.mods)); have hc0' := H4.c0; have hc1' := H4.c1))
    have kz := H4.f1
    have ho5 := hid (ho4.keep (Mods.setCell (F := fun k => k = r) (a := ⟨r, 1, none⟩) rfl (.int .i64 0)) (fun k hk e => by
      have := H.out.lt
      rcases hg4.fresh k hk with h | h
      · exact h
      · simp [drewN_heap] at h; omega))
    have hf5 : Hid (∀ k, blk ao4 k → w.heap.size ≤ k) := fun k hk => by
      rcases hg4.fresh k hk with h | h
      · exact h.elim
      · simpa [drewN_heap] using h
    have hset := hid (H4.set1 0 (Nat.zero_le _))
    have hm5 := hid (hm4.trans (Mods.setCell (F := fun k => k = r) (a := ⟨r, 1, none⟩) rfl (.int .i64 0)))
    clear H4 hm4 hg4 ho4
    go_wp2
    go_ret
    exact ⟨ao4, cap4, rfl, ho5.out, hf5.out, hset.out, hm5.out⟩
  · have hcap0 : (cap = 0) = False := by simp; omega
    have hcap1 : (0 = cap) = False := by simp; omega
    go_enter Try.func97, Try.ntmps97
    go_wp2_with fail
    refine HL.out.mono ?_
    rintro e w0 ⟨rfl, hq⟩
    obtain ⟨q, rfl⟩ := hq
    go_wp2
    go_quiet (fail)
    go_wp2
    go_rounds 1
    go_wp2_with fail
    go_region_held3 (fun w' => w'.cell? ⟨r, 0, none⟩ = some (.slice (some a) 0 cap) ∧ w'.cell? ⟨r, 1, none⟩ = some (.int .i64 0))
      (first | exact ⟨hc0, hc1⟩ | exact ⟨hc0', hc1'⟩)
      (first | (go_at_call 50; refine (HC.out _ _ _ (by simp)).mono ?_; rintro e w4 ⟨ao4, cap4, rfl, ho4, hg4⟩; have hm4 := (Mods.drewN (fun k => k = r) w _).trans ((Mods.drew _ _).trans (hg4.mods.mono fun _ _ h => h.elim)); have H4 := H.out.new ((Mods.drewN _ w _).trans ((Mods.drew _ _).trans hg4.mods)); have hc0' := H4.c0; have hc1' := H4.c1))
    have kz := H4.f1
    have ho5 := hid (ho4.keep (Mods.setCell (F := fun k => k = r) (a := ⟨r, 1, none⟩) rfl (.int .i64 0)) (fun k hk e => by
      have := H.out.lt
      rcases hg4.fresh k hk with h | h
      · exact h
      · simp [drewN_heap] at h; omega))
    have hf5 : Hid (∀ k, blk ao4 k → w.heap.size ≤ k) := fun k hk => by
      rcases hg4.fresh k hk with h | h
      · exact h.elim
      · simpa [drewN_heap] using h
    have hset := hid (H4.set1 0 (Nat.zero_le _))
    have hm5 := hid (hm4.trans (Mods.setCell (F := fun k => k = r) (a := ⟨r, 1, none⟩) rfl (.int .i64 0)))
    clear H4 hm4 hg4 ho4
    go_wp2
    go_ret
    exact ⟨ao4, cap4, rfl, ho5.out, hf5.out, hset.out, hm5.out⟩

end Go.Proofs.Ytanknjpcgceccaa

/- xdr's Reader.Fixed, where the bytes are there. -/
namespace Go.Proofs.Ytanknjpcgceccaa
open Go.RowKit

def AllZ (l : List UInt8) : Prop := l.all (· == 0) = true
theorem all_take_succ {l : List UInt8} {k : Nat} (h : k < l.length) : (l.take (k + 1)).all (· == 0) = ((l.take k).all (· == 0) && (l[k] == 0)) := by
  rw [List.take_succ_eq_append_getElem h, List.all_append]; simp

set_option maxHeartbeats 2000000 in
theorem RDFixed_lt (n : Nat) (r b o : Nat) (cap : Nat) (bs : List UInt8) (at_ : Nat) (w : World) (h : RD w r (some ⟨b, o, none⟩) cap bs at_ 0) (hne : bs ≠ []) (hcut : at_ + (n + pad n) ≤ bs.length) (hall0 : ((bs.drop (at_ + n)).take (pad n)).all (· == 0) = true) (hlt : at_ + n < cap) :
    Calls Try.prog 97 #[.pointer (some ⟨r, 0, none⟩), .int .i64 n] w (FPost w r (some ⟨b, o, none⟩) cap bs (rfixed n bs at_ 0).1 (rfixed n bs at_ 0).2.1 (rfixed n bs at_ 0).2.2) := by
  have HL := hid (Left_any r _ cap bs at_ 0 w h)
  have hc0 := h.c0
  have hc1 := h.c1
  have hc2 := h.c2
  have hle := h.le
  have hbig := h.big
  have hcap : bs.length ≤ cap := h.sl.2.1
  have H := hid h
  have hband : bits BinOp.and IntKind.i64 (-(n : Int)) 3 = ((pad n : Nat) : Int) := by rw [i64_and3]; unfold pad; omega
  have hpl : pad n ≤ 3 := by unfold pad; omega
  have hpz : n = 0 → pad n = 0 := by rintro rfl; rfl
  have hn0 : ¬ ((n : Int) < 0) := by omega
  have hcut' : ¬ (bs.length < at_ + (n + pad n)) := by omega
  have hsum : Hid (at_ + (n + pad n) ≤ 1000000000) := by show _ ≤ _; omega
  have hw1 : IntKind.i64.wrap ((at_ : Int) + (n : Int)) = (at_ : Int) + (n : Int) := IntWalk.i64_in _ (by omega)
  have hw1p : (0 : Int) ≤ (at_ : Int) + (n : Int) := by omega
  have hw2 : IntKind.i64.wrap ((at_ : Int) + (n : Int) + ((pad n : Nat) : Int)) = (at_ : Int) + (n : Int) + ((pad n : Nat) : Int) := IntWalk.i64_in _ (by omega)
  have HSP : Hid (∀ k, k < pad n → (w.cell? ⟨b, o + (at_ + n) + k, none⟩ = some (.int .u8 (((bs.drop (at_ + n)).getD k 0).toNat : Int)))) := fun k hk => by
    obtain ⟨b', o', h1, h2⟩ := h.sl.at (j := at_ + n + k) (by omega)
    simp only [Option.some.injEq, Addr.mk.injEq, and_true] at h1
    obtain ⟨rfl, rfl⟩ := h1
    rw [Nat.add_assoc, h2]
    have : at_ + n + k < bs.length := by omega
    simp [List.getD, List.getElem?_drop, List.getElem?_eq_getElem this]
  have HCL := hid (fun (w' : World) (a : Addr) (hw : Mods (fun _ => False) w w') (ha : n ≠ 0 → a = ⟨b, o + at_, none⟩) =>
    Clone_any (some a) (cap - at_) ((bs.drop at_).take n) w' ((H.out.new hw).sl.sub at_ n (by omega) ha) (Nat.le_trans (by rw [List.length_take, List.length_drop]; omega) hbig))
  have hlen : ((bs.drop at_).take n).length = n := by simp; omega
  have hlenH := hid hlen
  have hbne : 0 < bs.length := List.length_pos_iff.2 hne
  have hrf : Hid (rfixed n bs at_ 0 = if ((bs.drop (at_ + n)).take (pad n)).all (· == 0) then ((bs.drop at_).take n, at_ + (n + pad n), 0) else ([], at_, 15)) := by
    simp only [rfixed, if_true, if_neg hn0, Int.toNat_natCast, if_neg hcut', Hid]
  obtain ⟨out, hout⟩ : ∃ x, x = (bs.drop at_).take n := ⟨_, rfl⟩
  rw [← hout] at HCL hlenH hrf
  rw [hlenH.out] at HCL
  obtain ⟨pd, hpd⟩ : ∃ x, x = (bs.drop (at_ + n)).take (pad n) := ⟨_, rfl⟩
  have hpdl : Hid (pd.length = pad n) := by rw [hpd]; simp [Hid]; omega
  have hpdk : Hid (∀ k (hk : k < pd.length), (bs.drop (at_ + n)).getD k 0 = pd[k]) := fun k hk => by
    have hk2 : k < pad n := by rw [← hpdl.out]; exact hk
    have hk3 : at_ + n + k < bs.length := by omega
    simp [hpd, List.getD, List.getElem?_drop, List.getElem?_eq_getElem hk3]
  rw [← hpd] at hrf
  have hall : pd.all (· == 0) = true := by rw [hpd]; exact hall0
  have HRF := hrf
  clear hpd hout hlen hne h hcut' hn0 hrf hall0
  have hfin := HRF.out
  rw [if_pos hall] at hfin
  rw [hfin]
  have HALL := hid hall
  clear hfin hall HRF hpz
  have hb2 : (at_ : Int) ≤ (at_ : Int) + (n : Int) := by omega
  have hb3 : (at_ : Int) + (n : Int) ≤ (cap : Int) := by omega
  have hb4 : ((at_ : Int) + (n : Int)).toNat = at_ + n := by omega
  have hk1 : (cap = at_ + n) = False := by simp; omega
  have hk2 : (cap = at_) = False := by simp; omega
  go_enter Try.func97, Try.ntmps97
  go_wp2_with fail
  refine HL.out.mono ?_
  rintro e w0 ⟨rfl, hq⟩
  obtain ⟨q, rfl⟩ := hq
  go_wp2
  go_quiet (fail)
  go_wp2
  go_loop [59] (fun i => ∃ k : Nat, k ≤ pad n ∧ i = .int .i64 (k : Int)) (fun i => pad n - (intOf i).toNat)
  case atStart => exact ⟨0, by omega, by go_num⟩
  case round =>
    obtain ⟨k, hk, rfl⟩ := hrel
    by_cases hlt2 : k < pad n
    · have hcell := HSP.out k hlt2
      have hk3 : k < pd.length := by rw [hpdl.out]; exact hlt2
      have hz : pd[k] = 0 := by
        have := List.all_eq_true.1 HALL.out pd[k] (by simp)
        simpa using this
      rw [hpdk.out k hk3] at hcell
      obtain ⟨y, hy⟩ : ∃ y, y = pd[k] := ⟨_, rfl⟩
      rw [← hy] at hcell hz
      have hyn : (((y.toNat : Nat) : Int) != 0) = false := by rw [hz]; rfl
      clear hz hk3 hy
      go_wp2
      go_round
      case rel =>
        refine ⟨_, _, _, ⟨k + 1, by omega, ?_⟩, rfl, rfl, rfl⟩
        go_num
      case measure => simp [intOf]; omega
    · go_wp2_with fail
      go_region_held3 (fun w' => w'.cell? ⟨r, 0, none⟩ = some (.slice (some ⟨b, o, none⟩) bs.length cap) ∧ w'.cell? ⟨r, 1, none⟩ = some (.int .i64 at_))
        (first | exact ⟨hc0, hc1⟩ | exact ⟨hc0', hc1'⟩)
        (first | (go_at_call 50; refine (HCL.out _ ⟨b, o + at_, none⟩ ((Mods.drewN _ w _).trans (Mods.drew _ _)) (fun _ => rfl)).mono ?_; rintro e w4 ⟨ao4, cap4, rfl, ho4, hg4⟩; have hm4 := (Mods.drewN (fun k => k = r) w _).trans ((Mods.drew _ _).trans (hg4.mods.mono fun _ _ h => h.elim)); have H4 := H.out.new ((Mods.drewN _ w _).trans ((Mods.drew _ _).trans hg4.mods)); have hc0' := H4.c0; have hc1' := H4.c1))
      have kz := H4.f1
      have ho5 := hid (ho4.keep (Mods.setCell (F := fun k => k = r) (a := ⟨r, 1, none⟩) rfl (.int .i64 ((at_ + (n + pad n) : Nat) : Int))) (fun k hk e => by
        have := H.out.lt
        rcases hg4.fresh k hk with h | h
        · exact h
        · simp [drewN_heap] at h; omega))
      have hf5 : Hid (∀ k, blk ao4 k → w.heap.size ≤ k) := fun k hk => by
        rcases hg4.fresh k hk with h | h
        · exact h.elim
        · simpa [drewN_heap] using h
      have hset := hid (H4.set1 (at_ + (n + pad n)) (by omega))
      have hm5 := hid (hm4.trans (Mods.setCell (F := fun k => k = r) (a := ⟨r, 1, none⟩) rfl (.int .i64 ((at_ + (n + pad n) : Nat) : Int))))
      have hend : Hid (((at_ + (n + pad n) : Nat) : Int) = (at_ : Int) + (n : Int) + ((pad n : Nat) : Int)) := by show _ = _; omega
      clear H4 hm4 hg4 ho4
      go_wp2
      go_ret
      rw [hend.out] at ho5 hset hm5
      exact ⟨ao4, cap4, rfl, ho5.out, hf5.out, hset.out, hm5.out⟩

end Go.Proofs.Ytanknjpcgceccaa
