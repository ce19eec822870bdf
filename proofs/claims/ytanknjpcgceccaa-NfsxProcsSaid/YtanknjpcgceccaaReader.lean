/- xdr's and the reference's Reader: each call's contract. -/
import Derived.Test.YtanknjpcgceccaaWriter
import Derived.Deep.QuietTactic
import Derived.BigQuiet
namespace Go.Proofs.Ytanknjpcgceccaa
open Go.RowKit

/-- The world, but for draws. -/
def Quiet (w w' : World) : Prop := ∃ n, w' = w.drewN n
theorem Quiet.refl (w : World) : Quiet w w := ⟨0, rfl⟩
theorem drewN_heap (w : World) (n : Nat) : (w.drewN n).heap = w.heap := by
  induction n with
  | zero => rfl
  | succ n ih => simp [World.drewN] at *
theorem Mods.drewN (F : Nat → Prop) (w : World) (n : Nat) : Mods F w (w.drewN n) := by
  have h := drewN_heap w n
  exact ⟨by simp [World.drewN], by simp [World.drewN], by simp [World.drewN], by rw [h]; exact Nat.le_refl _, fun k _ _ => by rw [h]⟩

theorem quiet_same {P : Program} {f : FuncId} {args : Array Value} {w : World} {n : Nat} {v : Value} (h : Calls P f args (w.drewN n) fun e w' => e = .returned v ∧ w.drewN n = w') : Calls P f args (w.drewN n) fun e w'' => e = .returned v ∧ ∃ m, w'' = w.drewN m :=
  h.mono fun _ _ ⟨he, hm⟩ => ⟨he, n, hm.symm⟩
theorem quiet_quiet {P : Program} {f : FuncId} {args : Array Value} {w : World} {n : Nat} {v : Value} (h : Calls P f args (w.drewN n) fun e w' => e = .returned v ∧ Quiet (w.drewN n) w') : Calls P f args (w.drewN n) fun e w'' => e = .returned v ∧ ∃ m, w'' = w.drewN m :=
  h.mono fun _ _ ⟨he, m, hm⟩ => ⟨he, n + m, by rw [hm, World.drewN_drewN]⟩
theorem Quiet.trans {a b c : World} (h : Quiet a b) (g : Quiet b c) : Quiet a c := by
  obtain ⟨n, rfl⟩ := h
  obtain ⟨m, rfl⟩ := g
  exact ⟨n + m, by rw [World.drewN_drewN]⟩

/-- A number out of bytes, the highest first. -/
def beval (l : List UInt8) : Nat := l.foldl (fun v x => v * 256 + x.toNat) 0
theorem beval_snoc (l : List UInt8) (x : UInt8) : beval (l ++ [x]) = beval l * 256 + x.toNat := by simp [beval]
theorem foldl_lt (l : List UInt8) : ∀ v n : Nat, v < 256 ^ n → l.foldl (fun v x => v * 256 + x.toNat) v < 256 ^ (n + l.length) := by
  induction l with
  | nil => intro v n h; simpa using h
  | cons x l ih =>
    intro v n h
    have hx := x.toNat_lt
    have h2 : v * 256 + x.toNat < 256 ^ (n + 1) := by rw [Nat.pow_succ]; omega
    have := ih _ _ h2
    rw [List.foldl_cons, List.length_cons, show n + (l.length + 1) = n + 1 + l.length by omega]
    exact this
theorem beval_lt (l : List UInt8) : beval l < 256 ^ l.length := by
  have := foldl_lt l 0 0 (by decide)
  simpa [beval] using this
theorem or_join (x y : Nat) (hx : x < 72057594037927936) (hy : y < 256) : bits BinOp.or IntKind.u64 ((x : Int) * 256) (y : Int) = ((x * 256 + y : Nat) : Int) := by
  have h := u64_or_nat (x * 256) y (by omega) (by omega)
  rw [nat_join 8 (x * 256) y (by omega) (by omega)] at h
  rw [show ((x : Int) * 256) = ((x * 256 : Nat) : Int) by omega]
  exact h

set_option maxHeartbeats 400000 in
theorem cut_ok (ao : Option Addr) (cap : Nat) (bs : List UInt8) (at_ n : Nat) (w : World) (hb : SlB w ao cap bs) (hn : n = 4 ∨ n = 8) (h : at_ + n ≤ bs.length) (hl : bs.length ≤ 9223372036854775807) :
    Calls Try.prog 104 #[.slice ao bs.length cap, .int .i64 at_, .int .i64 n] w fun e w' => ∃ b o, ao = some ⟨b, o, none⟩ ∧ e = .returned (.tuple #[.slice (some ⟨b, o + at_, none⟩) n (cap - at_), .int .i64 0]) ∧ w = w' := by
  have HN := hid hn
  have hc : bs.length ≤ cap := hb.2.1
  obtain ⟨b, o, rfl, hcell⟩ := hb.at (j := at_) (by omega)
  have hn2 : 4 ≤ n := by omega
  clear hn hcell hb
  go_enter Try.func104, Try.ntmps104
  go_wp2_with (go_at_call 105; refine (num_size_yes _ _ (by have := HN.out; omega)).mono ?_; rintro e w' ⟨rfl, rfl⟩)
  go_ret2
  exact ⟨b, o, rfl, by simp, rfl⟩

set_option maxHeartbeats 400000 in
theorem cut_no (ao : Option Addr) (cap : Nat) (bs : List UInt8) (at_ n : Nat) (w : World) (hn : n = 4 ∨ n = 8) (h : bs.length < at_ + n) (hl : bs.length ≤ 9223372036854775807) :
    Calls Try.prog 104 #[.slice ao bs.length cap, .int .i64 at_, .int .i64 n] w fun e w' => e = .returned (.tuple #[.slice none 0 0, .int .i64 11]) ∧ w = w' := by
  have HN := hid hn
  have hn2 : 4 ≤ n := by omega
  have hn3 : n ≤ 8 := by omega
  clear hn
  go_enter Try.func104, Try.ntmps104
  go_wp2_with (go_at_call 105; refine (num_size_yes _ _ (by have := HN.out; omega)).mono ?_; rintro e w' ⟨rfl, rfl⟩)
  go_ret2
  exact ⟨rfl, rfl⟩

set_option maxHeartbeats 400000 in
theorem Be_any (ao : Option Addr) (cap : Nat) (bs : List UInt8) (at_ n : Nat) (w : World) (hb : SlB w ao cap bs) (hn : n = 4 ∨ n = 8) (h : at_ + n ≤ bs.length) (hl : bs.length ≤ 9223372036854775807) :
    Calls Try.prog 102 #[.slice ao bs.length cap, .int .i64 at_, .int .i64 n] w fun e w' => e = .returned (.tuple #[.int .u64 (beval ((bs.drop at_).take n)), .int .i64 0]) ∧ w = w' := by
  have HN := hid hn
  have HB := hid hb
  have hn2 : 4 ≤ n := by omega
  have hn3 : n ≤ 8 := by omega
  clear hn hb
  go_enter Try.func102, Try.ntmps102
  go_wp2_with (go_at_call 104; refine (cut_ok _ _ _ _ _ _ HB.out HN.out h hl).mono ?_; rintro e w' ⟨b, o, rfl, rfl, rfl⟩)
  go_loop [10, 22] (fun v i => ∃ k x : Nat, k ≤ n ∧ i = .int .i64 (k : Int) ∧ v = .int .u64 (x : Int) ∧ x < 256 ^ k ∧ Hid (x = beval ((bs.drop at_).take k))) (fun _ i => n - (intOf i).toNat)
  case atStart => exact ⟨0, 0, by omega, by go_num, by go_num, by decide, by simp [beval, Hid]⟩
  case round =>
    obtain ⟨k, x, hk, rfl, rfl, hx, hX⟩ := hrel
    by_cases hlt : k < n
    · have hcell : w.cell? ⟨b, o + at_ + k, none⟩ = some (.int .u8 (bs[at_ + k].toNat : Int)) := by
        obtain ⟨b', o', h1, h2⟩ := HB.out.at (j := at_ + k) (by omega)
        simp only [Option.some.injEq, Addr.mk.injEq, and_true] at h1
        obtain ⟨rfl, rfl⟩ := h1
        rw [Nat.add_assoc]
        exact h2
      obtain ⟨y, hy⟩ : ∃ y, y = bs[at_ + k] := ⟨_, rfl⟩
      have hX2 : Hid (x * 256 + y.toNat = beval ((bs.drop at_).take (k + 1))) := by
        rw [List.take_succ_eq_append_getElem (by simp; omega), beval_snoc, ← hX.out]
        simp [hy, Hid]
      rw [← hy] at hcell
      have hyl := y.toNat_lt
      have hpow : 256 ^ k ≤ 256 ^ 7 := Nat.pow_le_pow_right (by decide) (by omega)
      have hx7 : x < 72057594037927936 := by omega
      have HXX := hid hx
      have hor := or_join x y.toNat hx7 hyl
      have hp2 : Hid (x * 256 + y.toNat < 256 ^ (k + 1)) := by rw [Nat.pow_succ]; show _ < _; omega
      clear hX hy hx hpow
      go_wp2
      go_round
      case rel => exact ⟨k + 1, x * 256 + y.toNat, by omega, by go_num, by go_num, hp2, hX2⟩
      case measure => simp [intOf]; omega
    · clear hx
      have hkn : k = n := by omega
      have hX3 : Hid (x = beval ((bs.drop at_).take n)) := by rw [← hkn]; exact hX
      clear hkn hX
      go_wp2
      go_ret2
      obtain rfl := hX3.out
      exact ⟨rfl, rfl⟩

set_option maxHeartbeats 400000 in
theorem Be_no (ao : Option Addr) (cap : Nat) (bs : List UInt8) (at_ n : Nat) (w : World) (hn : n = 4 ∨ n = 8) (h : bs.length < at_ + n) (hl : bs.length ≤ 9223372036854775807) :
    Calls Try.prog 102 #[.slice ao bs.length cap, .int .i64 at_, .int .i64 n] w fun e w' => e = .returned (.tuple #[.int .u64 0, .int .i64 11]) ∧ w = w' := by
  have HN := hid hn
  clear hn
  go_enter Try.func102, Try.ntmps102
  go_wp2_with (go_at_call 104; refine (cut_no _ _ _ _ _ _ HN.out h hl).mono ?_; rintro e w' ⟨rfl, rfl⟩)
  go_rounds 1
  go_ret2
  exact ⟨rfl, rfl⟩

set_option maxHeartbeats 400000 in
theorem RBe_any (ao : Option Addr) (cap : Nat) (bs : List UInt8) (at_ n : Nat) (w : World) (hb : SlB w ao cap bs) (hn : n = 4 ∨ n = 8) (h : at_ + n ≤ bs.length) (hl : bs.length ≤ 9223372036854775807) :
    Calls Try.prog 83 #[.slice ao bs.length cap, .int .i64 at_, .int .i64 n] w fun e w' => e = .returned (.tuple #[.int .u64 (beval ((bs.drop at_).take n)), .int .i64 0]) ∧ w = w' := by
  have HN := hid hn
  have HB := hid hb
  have hn2 : 4 ≤ n := by omega
  have hn3 : n ≤ 8 := by omega
  clear hn hb
  go_enter Try.func83, Try.ntmps83
  go_wp2_with (go_at_call 99; refine (ref_size_yes _ _ (by have := HN.out; omega)).mono ?_; rintro e w' ⟨rfl, rfl⟩)
  go_loop [8, 9] (fun v i => ∃ k x : Nat, k ≤ n ∧ i = .int .i64 (k : Int) ∧ v = .int .u64 (x : Int) ∧ x < 256 ^ k ∧ Hid (x = beval ((bs.drop at_).take k))) (fun _ i => n - (intOf i).toNat)
  case atStart => exact ⟨0, 0, by omega, by go_num, by go_num, by decide, by simp [beval, Hid]⟩
  case round =>
    obtain ⟨k, x, hk, rfl, rfl, hx, hX⟩ := hrel
    by_cases hlt : k < n
    · obtain ⟨b, o, rfl, hcell⟩ := HB.out.at (j := at_ + k) (by omega)
      obtain ⟨y, hy⟩ : ∃ y, y = bs[at_ + k] := ⟨_, rfl⟩
      have hX2 : Hid (x * 256 + y.toNat = beval ((bs.drop at_).take (k + 1))) := by
        rw [List.take_succ_eq_append_getElem (by simp; omega), beval_snoc, ← hX.out]
        simp [hy, Hid]
      rw [← hy] at hcell
      have hyl := y.toNat_lt
      have hpow : 256 ^ k ≤ 256 ^ 7 := Nat.pow_le_pow_right (by decide) (by omega)
      have hx7 : x < 72057594037927936 := by omega
      have hor := or_join x y.toNat hx7 hyl
      have hp2 : Hid (x * 256 + y.toNat < 256 ^ (k + 1)) := by rw [Nat.pow_succ]; show _ < _; omega
      clear hX hy hx hpow
      go_wp2
      go_round
      case rel => exact ⟨k + 1, x * 256 + y.toNat, by omega, by go_num, by go_num, hp2, hX2⟩
      case measure => simp [intOf]; omega
    · clear hx
      have hkn : k = n := by omega
      have hX3 : Hid (x = beval ((bs.drop at_).take n)) := by rw [← hkn]; exact hX
      clear hkn hX
      go_wp2
      go_ret2
      obtain rfl := hX3.out
      exact ⟨rfl, rfl⟩

set_option maxHeartbeats 400000 in
theorem RBe_no (ao : Option Addr) (cap : Nat) (bs : List UInt8) (at_ n : Nat) (w : World) (hn : n = 4 ∨ n = 8) (h : bs.length < at_ + n) (hat : at_ ≤ bs.length) (hl : bs.length ≤ 9223372036854775807) :
    Calls Try.prog 83 #[.slice ao bs.length cap, .int .i64 at_, .int .i64 n] w fun e w' => e = .returned (.tuple #[.int .u64 0, .int .i64 11]) ∧ w = w' := by
  have HN := hid hn
  have hn2 : 4 ≤ n := by omega
  have hn3 : n ≤ 8 := by omega
  clear hn
  go_enter Try.func83, Try.ntmps83
  go_wp2_with (go_at_call 99; refine (ref_size_yes _ _ (by have := HN.out; omega)).mono ?_; rintro e w' ⟨rfl, rfl⟩)
  go_ret2
  exact ⟨rfl, rfl⟩

/-! ### The reader's state: bytes, a place, the first error -/
def rnum (n : Nat) (bs : List UInt8) (at_ : Nat) (err : Int) : Nat × Nat × Int :=
  if err = 0 then (if at_ + n ≤ bs.length then (beval ((bs.drop at_).take n), at_ + n, 0) else (0, at_, 11)) else (0, at_, err)
def rbool (bs : List UInt8) (at_ : Nat) (err : Int) : Bool × Nat × Int :=
  let r := rnum 4 bs at_ err
  if 1 < r.1 then (false, at_, 15) else (r.1 == 1, r.2.1, r.2.2)
/-- n bytes, and noughts behind them. -/
def rfixed (n : Int) (bs : List UInt8) (at_ : Nat) (err : Int) : List UInt8 × Nat × Int :=
  if err = 0 then
    if n < 0 then ([], at_, 1)
    else if bs.length < at_ + (n.toNat + pad n.toNat) then ([], at_, 11)
    else if ((bs.drop (at_ + n.toNat)).take (pad n.toNat)).all (· == 0) then ((bs.drop at_).take n.toNat, at_ + (n.toNat + pad n.toNat), 0) else ([], at_, 15)
  else ([], at_, err)
def rbytes (most : Int) (bs : List UInt8) (at_ : Nat) (err : Int) : List UInt8 × Nat × Int :=
  let r := rnum 4 bs at_ err
  if r.2.2 = 0 then
    if most < r.1 then ([], at_, 5)
    else
      let f := rfixed r.1 bs r.2.1 0
      if f.2.2 = 0 then f else ([], at_, f.2.2)
  else ([], at_, r.2.2)

structure RD (w : World) (r : Nat) (ao : Option Addr) (cap : Nat) (bs : List UInt8) (at_ : Nat) (err : Int) : Prop where
  obj : ∃ T, w.heap[r]? = some (.cells #[.slice ao bs.length cap, .int .i64 at_, .int .i64 err] T (0, 0))
  sl : SlB w ao cap bs
  sep : ∀ k, rb ao bs.length k → k ≠ r
  le : at_ ≤ bs.length
  big : bs.length ≤ 1000000000

section
variable {w : World} {r : Nat} {ao : Option Addr} {cap : Nat} {bs : List UInt8} {at_ : Nat} {err : Int}
theorem RD.lt (h : RD w r ao cap bs at_ err) : r < w.heap.size := by obtain ⟨T, h⟩ := h.obj; exact lt_of_heap h
theorem RD.c0 (h : RD w r ao cap bs at_ err) : w.cell? ⟨r, 0, none⟩ = some (.slice ao bs.length cap) := by obtain ⟨T, h⟩ := h.obj; simp [World.cell?, h]
theorem RD.c1 (h : RD w r ao cap bs at_ err) : w.cell? ⟨r, 1, none⟩ = some (.int .i64 at_) := by obtain ⟨T, h⟩ := h.obj; simp [World.cell?, h]
theorem RD.c2 (h : RD w r ao cap bs at_ err) : w.cell? ⟨r, 2, none⟩ = some (.int .i64 err) := by obtain ⟨T, h⟩ := h.obj; simp [World.cell?, h]
theorem RD.f1 (h : RD w r ao cap bs at_ err) : w.frozen? ⟨r, 1, none⟩ = false := by obtain ⟨T, h⟩ := h.obj; simp [World.frozen?, h]
theorem RD.f2 (h : RD w r ao cap bs at_ err) : w.frozen? ⟨r, 2, none⟩ = false := by obtain ⟨T, h⟩ := h.obj; simp [World.frozen?, h]
theorem RD.keep {w' : World} (h : RD w r ao cap bs at_ err) {F : Nat → Prop} (hm : Mods F w w') (hr : ¬ F r) (hF : ∀ k, rb ao bs.length k → ¬ F k) : RD w' r ao cap bs at_ err := by
  obtain ⟨T, ho⟩ := h.obj
  exact ⟨⟨T, hm.obj ho hr⟩, h.sl.keep hm hF, h.sep, h.le, h.big⟩
theorem RD.new {w' : World} (h : RD w r ao cap bs at_ err) (hm : Mods (fun _ => False) w w') : RD w' r ao cap bs at_ err := h.keep hm (fun h => h) fun _ _ h => h
theorem RD.drewN (h : RD w r ao cap bs at_ err) (n : Nat) : RD (w.drewN n) r ao cap bs at_ err := h.new (Mods.drewN _ _ _)
theorem RD.set1 (h : RD w r ao cap bs at_ err) (a' : Nat) (hle : a' ≤ bs.length) : RD (w.setCell ⟨r, 1, none⟩ (.int .i64 a')) r ao cap bs a' err := by
  obtain ⟨T, ho⟩ := h.obj
  refine ⟨⟨T, ?_⟩, h.sl.keep (Mods.setCell (F := fun k => k = r) (a := ⟨r, 1, none⟩) rfl _) (fun k hk e => h.sep k hk e), h.sep, hle, h.big⟩
  simp [World.setCell, Array.getElem?_modify, ho]
theorem RD.set2 (h : RD w r ao cap bs at_ err) (e' : Int) : RD (w.setCell ⟨r, 2, none⟩ (.int .i64 e')) r ao cap bs at_ e' := by
  obtain ⟨T, ho⟩ := h.obj
  refine ⟨⟨T, ?_⟩, h.sl.keep (Mods.setCell (F := fun k => k = r) (a := ⟨r, 2, none⟩) rfl _) (fun k hk e => h.sep k hk e), h.sep, h.le, h.big⟩
  simp [World.setCell, Array.getElem?_modify, ho]
end

/-- What a reader's call leaves. -/
def RPost (w : World) (r : Nat) (ao : Option Addr) (cap : Nat) (bs : List UInt8) (v : Value) (at_ : Nat) (err : Int) (e : Ending) (w' : World) : Prop :=
  e = .returned v ∧ RD w' r ao cap bs at_ err ∧ Mods (fun k => k = r) w w'

set_option maxHeartbeats 400000 in
theorem fail_any (r : Nat) (ao : Option Addr) (cap : Nat) (bs : List UInt8) (at_ : Nat) (err e0 : Int) (w : World) (h : RD w r ao cap bs at_ err) :
    Calls Try.prog 95 #[.pointer (some ⟨r, 0, none⟩), .int .i64 e0] w (RPost w r ao cap bs (.tuple #[]) at_ (if err = 0 then e0 else err)) := by
  have h2 := h.c2
  have hz := h.f2
  have H := hid h; clear h
  by_cases he : err = 0
  · subst he
    rw [if_pos rfl]
    go_enter Try.func95, Try.ntmps95
    go_wp2
    go_end0
    exact ⟨rfl, H.out.set2 e0, Mods.setCell (F := fun k => k = r) (a := ⟨r, 2, none⟩) rfl _⟩
  · rw [if_neg he]
    have he' : (err == 0) = false := by simpa using he
    go_enter Try.func95, Try.ntmps95
    go_wp2
    go_end0
    exact ⟨rfl, H.out, Mods.refl _ _⟩

set_option maxHeartbeats 400000 in
theorem number_any (n : Nat) (r : Nat) (ao : Option Addr) (cap : Nat) (bs : List UInt8) (at_ : Nat) (err : Int) (w : World) (h : RD w r ao cap bs at_ err) (hn : n = 4 ∨ n = 8) :
    Calls Try.prog 94 #[.pointer (some ⟨r, 0, none⟩), .int .i64 n] w (RPost w r ao cap bs (.int .u64 (rnum n bs at_ err).1) (rnum n bs at_ err).2.1 (rnum n bs at_ err).2.2) := by
  have h0 := h.c0
  have h1 := h.c1
  have hle := h.le
  have hbig := h.big
  have H := hid h; have HN := hid hn
  by_cases hfit : at_ + n ≤ bs.length
  · have HB := fun (w' : World) (hw : Quiet w w') => Be_any ao cap bs at_ n w' (by obtain ⟨q, rfl⟩ := hw; exact (H.out.drewN q).sl) HN.out hfit (by omega)
    have HBE := hid HB
    clear HB h hn
    obtain ⟨v, hv⟩ : ∃ v, v = beval ((bs.drop at_).take n) := ⟨_, rfl⟩
    rw [← hv] at HBE
    have hn8 : n ≤ 8 := by have := HN.out; omega
    by_cases he : err = 0
    · have hfin : rnum n bs at_ err = (v, at_ + n, 0) := by rw [hv, he]; simp [rnum, hfit]
      subst he
      rw [hfin]
      clear hv hfin
      go_enter Try.func94, Try.ntmps94
      go_wp2_with fail
      go_quiet ((go_at_call 102; exact quiet_same (HBE.out _ ⟨_, rfl⟩)))
      go_wp2_with fail
      refine (fail_any r ao cap bs at_ 0 0 _ (H.out.drewN _)).mono ?_
      rintro e w1 ⟨rfl, hr, hm⟩
      have hr2 : Hid (RD w1 r ao cap bs at_ 0) := by rw [if_pos rfl] at hr; exact hr
      have hm2 := hid ((Mods.drewN _ w _).trans hm)
      clear hr hm
      have k1 := hr2.out.c1
      have k2 := hr2.out.c2
      have kz := hr2.out.f1
      have hset := hid (hr2.out.set1 (at_ + n) hfit)
      have hm3 := hid (hm2.out.trans (Mods.setCell (F := fun k => k = r) (a := ⟨r, 1, none⟩) rfl (.int .i64 (at_ + n : Nat))))
      have hcast : Hid (((at_ + n : Nat) : Int) = (at_ : Int) + (n : Int)) := by show _ = _; omega
      go_wp2
      go_ret
      rw [hcast.out] at hset hm3
      exact ⟨rfl, hset.out, hm3.out⟩
    · have hfin : rnum n bs at_ err = (0, at_, err) := by simp [rnum, he]
      have he' : (err != 0) = true := by simpa using he
      rw [hfin]
      clear hv hfin
      go_enter Try.func94, Try.ntmps94
      go_wp2_with fail
      go_quiet ((go_at_call 102; exact quiet_same (HBE.out _ ⟨_, rfl⟩)))
      go_wp2_with fail
      refine (fail_any r ao cap bs at_ err 0 _ (H.out.drewN _)).mono ?_
      rintro e w1 ⟨rfl, hr, hm⟩
      have hr2 : Hid (RD w1 r ao cap bs at_ err) := by rw [if_neg he] at hr; exact hr
      have hm2 := hid ((Mods.drewN _ w _).trans hm)
      clear hr hm
      have k2 := hr2.out.c2
      go_wp2
      go_ret
      exact ⟨rfl, hr2.out, hm2.out⟩
  · have HB := fun (w' : World) => Be_no ao cap bs at_ n w' HN.out (by omega) (by omega)
    have HBE := hid HB
    clear HB h hn
    have hfin : rnum n bs at_ err = (0, at_, if err = 0 then 11 else err) := by
      by_cases he : err = 0
      · simp [rnum, hfit, he]
      · simp [rnum, he]
    have hne : ((if err = 0 then (11 : Int) else err) != 0) = true := by
      by_cases he : err = 0
      · simp [he]
      · simp [he]
    rw [hfin]
    clear hfin
    obtain ⟨err', he'⟩ : ∃ e, e = if err = 0 then (11 : Int) else err := ⟨_, rfl⟩
    rw [← he'] at hne
    have HF := hid (fun (w' : World) h => fail_any r ao cap bs at_ err 11 w' h)
    rw [← he'] at HF
    rw [← he']
    clear he'
    go_enter Try.func94, Try.ntmps94
    go_wp2_with fail
    go_quiet ((go_at_call 102; exact quiet_same (HBE.out _)))
    go_wp2_with fail
    refine (HF.out _ (H.out.drewN _)).mono ?_
    rintro e w1 ⟨rfl, hr, hm⟩
    have hr2 := hid hr
    have hm2 := hid ((Mods.drewN _ w _).trans hm)
    clear hr hm
    have k2 := hr2.out.c2
    go_wp2
    go_ret
    exact ⟨rfl, hr2.out, hm2.out⟩

end Go.Proofs.Ytanknjpcgceccaa
