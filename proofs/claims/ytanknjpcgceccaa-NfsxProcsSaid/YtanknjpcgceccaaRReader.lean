/- The reference's Reader: each call's contract. -/
import Derived.Test.YtanknjpcgceccaaReader6
namespace Go.Proofs.Ytanknjpcgceccaa
open Go.RowKit

set_option maxHeartbeats 1000000 in
theorem Rnumber_any (n : Nat) (r : Nat) (ao : Option Addr) (cap : Nat) (bs : List UInt8) (at_ : Nat) (err : Int) (w : World) (h : RD w r ao cap bs at_ err) (hn : n = 4 ∨ n = 8) :
    Calls Try.prog 62 #[.pointer (some ⟨r, 0, none⟩), .int .i64 n] w (RPost w r ao cap bs (.int .u64 (rnum n bs at_ err).1) (rnum n bs at_ err).2.1 (rnum n bs at_ err).2.2) := by
  have h0 := h.c0
  have h1 := h.c1
  have h2 := h.c2
  have hz1 := h.f1
  have hz2 := h.f2
  have hle := h.le
  have hbig := h.big
  have H := hid h; have HN := hid hn
  have hn8 : n ≤ 8 := by omega
  by_cases he : err = 0
  · subst he
    by_cases hfit : at_ + n ≤ bs.length
    · have hfin : rnum n bs at_ 0 = (beval ((bs.drop at_).take n), at_ + n, 0) := by simp [rnum, hfit]
      rw [hfin]
      have HB := fun (w' : World) (hw : Quiet w w') => RBe_any ao cap bs at_ n w' (by obtain ⟨q, rfl⟩ := hw; exact (H.out.drewN q).sl) HN.out hfit (by omega)
      generalize beval ((bs.drop at_).take n) = v at HB ⊢
      have HBE := hid HB
      clear HB h hn hfin
      go_enter Try.func62, Try.ntmps62
      go_wp2_with fail
      go_quiet ((go_at_call 83; exact quiet_same (HBE.out _ ⟨_, rfl⟩)))
      have hset := hid ((H.out.drewN nq).set1 (at_ + n) hfit)
      have hm3 := hid ((Mods.drewN (fun k => k = r) w nq).trans (Mods.setCell (F := fun k => k = r) (a := ⟨r, 1, none⟩) rfl (.int .i64 (at_ + n : Nat))))
      have hcast : Hid (((at_ + n : Nat) : Int) = (at_ : Int) + (n : Int)) := by show _ = _; omega
      go_wp2
      go_ret
      rw [hcast.out] at hset hm3
      exact ⟨rfl, hset.out, hm3.out⟩
    · have hfin : rnum n bs at_ 0 = (0, at_, 11) := by simp [rnum, hfit]
      rw [hfin]
      have HBE := hid (fun (w' : World) => RBe_no ao cap bs at_ n w' HN.out (by omega) hle (by omega))
      clear h hn hfin
      go_enter Try.func62, Try.ntmps62
      go_wp2_with fail
      go_quiet ((go_at_call 83; exact quiet_same (HBE.out _)))
      have hset := hid ((H.out.drewN nq).set2 11)
      have hm3 := hid ((Mods.drewN (fun k => k = r) w nq).trans (Mods.setCell (F := fun k => k = r) (a := ⟨r, 2, none⟩) rfl (.int .i64 11)))
      go_wp2
      go_ret
      exact ⟨rfl, hset.out, hm3.out⟩
  · have hfin : rnum n bs at_ err = (0, at_, err) := by simp [rnum, he]
    have he' : (err != 0) = true := by simpa using he
    rw [hfin]
    clear h hn hfin
    go_enter Try.func62, Try.ntmps62
    go_wp2
    go_ret
    exact ⟨rfl, H.out, Mods.refl _ _⟩

set_option maxHeartbeats 400000 in
theorem RRU32_any (r : Nat) (ao : Option Addr) (cap : Nat) (bs : List UInt8) (at_ : Nat) (err : Int) (w : World) (h : RD w r ao cap bs at_ err) :
    Calls Try.prog 64 #[.pointer (some ⟨r, 0, none⟩)] w (RPost w r ao cap bs (.int .u32 (rnum 4 bs at_ err).1) (rnum 4 bs at_ err).2.1 (rnum 4 bs at_ err).2.2) := by
  have hlt := rnum4_lt bs at_ err
  have hN := Rnumber_any 4 r ao cap bs at_ err w h (.inl rfl)
  generalize rnum 4 bs at_ err = q at hlt hN ⊢
  obtain ⟨v, a', e'⟩ := q
  simp only at hlt hN ⊢
  have HN := hid hN
  clear hN h
  go_enter Try.func64, Try.ntmps64
  go_wp2_with fail
  refine HN.out.mono ?_
  rintro e w1 ⟨rfl, hr, hm⟩
  have hr2 := hid hr
  have hm2 := hid hm
  clear hr hm
  go_wp2
  go_ret
  exact ⟨rfl, hr2.out, hm2.out⟩

set_option maxHeartbeats 400000 in
theorem RRU64_any (r : Nat) (ao : Option Addr) (cap : Nat) (bs : List UInt8) (at_ : Nat) (err : Int) (w : World) (h : RD w r ao cap bs at_ err) :
    Calls Try.prog 31 #[.pointer (some ⟨r, 0, none⟩)] w (RPost w r ao cap bs (.int .u64 (rnum 8 bs at_ err).1) (rnum 8 bs at_ err).2.1 (rnum 8 bs at_ err).2.2) := by
  have hN := Rnumber_any 8 r ao cap bs at_ err w h (.inr rfl)
  generalize rnum 8 bs at_ err = q at hN ⊢
  obtain ⟨v, a', e'⟩ := q
  simp only at hN ⊢
  have HN := hid hN
  clear hN h
  go_enter Try.func31, Try.ntmps31
  go_wp2_with fail
  refine HN.out.mono ?_
  rintro e w1 ⟨rfl, hr, hm⟩
  have hr2 := hid hr
  have hm2 := hid hm
  clear hr hm
  go_wp2
  go_ret
  exact ⟨rfl, hr2.out, hm2.out⟩

set_option maxHeartbeats 400000 in
theorem Rfail_any (r : Nat) (ao : Option Addr) (cap : Nat) (bs : List UInt8) (at_ a' : Nat) (err e0 : Int) (w : World) (h : RD w r ao cap bs at_ err) (ha : a' ≤ bs.length) :
    Calls Try.prog 63 #[.pointer (some ⟨r, 0, none⟩), .int .i64 a', .int .i64 e0] w (RPost w r ao cap bs (.tuple #[]) a' e0) := by
  have h1 := h.c1
  have h2 := h.c2
  have hz1 := h.f1
  have hz2 := h.f2
  have H := hid ((h.set1 a' ha).set2 e0)
  have hm := hid ((Mods.setCell (F := fun k => k = r) (w := w) (a := ⟨r, 1, none⟩) rfl (.int .i64 a')).trans (Mods.setCell (F := fun k => k = r) (a := ⟨r, 2, none⟩) rfl (.int .i64 e0)))
  clear h
  go_enter Try.func63, Try.ntmps63
  go_wp2
  go_end0
  exact ⟨rfl, H.out, hm.out⟩

set_option maxHeartbeats 400000 in
theorem RRBool_any (r : Nat) (ao : Option Addr) (cap : Nat) (bs : List UInt8) (at_ : Nat) (err : Int) (w : World) (h : RD w r ao cap bs at_ err) :
    Calls Try.prog 28 #[.pointer (some ⟨r, 0, none⟩)] w (RPost w r ao cap bs (.bool (rbool bs at_ err).1) (rbool bs at_ err).2.1 (rbool bs at_ err).2.2) := by
  have hN := Rnumber_any 4 r ao cap bs at_ err w h (.inl rfl)
  have hpos := @rnum_pos 4 bs at_ err
  have hle := h.le
  unfold rbool
  generalize rnum 4 bs at_ err = q at hN hpos ⊢
  obtain ⟨v, a', e'⟩ := q
  simp only at hN hpos ⊢
  have HN := hid hN
  have h1 := h.c1
  clear hN h
  by_cases hv : 1 < v
  · obtain rfl : e' = 0 := hpos (by omega)
    rw [if_pos hv]
    clear hpos
    go_enter Try.func28, Try.ntmps28
    go_wp2_with fail
    refine HN.out.mono ?_
    rintro e w1 ⟨rfl, hr, hm⟩
    have k2 := hr.c2
    have hr2 := hid hr
    have hm2 := hid hm
    clear hr hm
    go_wp2_with fail
    refine (Rfail_any r ao cap bs a' at_ 0 15 _ hr2.out hle).mono ?_
    rintro e w2 ⟨rfl, hr3, hm3⟩
    have hr4 := hid hr3
    have hm4 := hid (hm2.out.trans hm3)
    clear hr3 hm3
    go_wp2
    go_ret
    exact ⟨rfl, hr4.out, hm4.out⟩
  · rw [if_neg hv]
    clear hpos
    have hv1 : Hid ((v == 1) = ((v : Int) == 1)) := by
      by_cases h : v = 1
      · subst h; rfl
      · show _ = _; rw [show (v == 1) = false by simpa using h, show ((v : Int) == 1) = false by rw [beq_eq_false_iff_ne]; omega]
    by_cases he : e' = 0
    · subst he
      go_enter Try.func28, Try.ntmps28
      go_wp2_with fail
      refine HN.out.mono ?_
      rintro e w1 ⟨rfl, hr, hm⟩
      have k2 := hr.c2
      have hr2 := hid hr
      have hm2 := hid hm
      clear hr hm
      go_wp2
      go_ret
      rw [hv1.out]
      exact ⟨rfl, hr2.out, hm2.out⟩
    · have he' : (e' == 0) = false := by simpa using he
      go_enter Try.func28, Try.ntmps28
      go_wp2_with fail
      refine HN.out.mono ?_
      rintro e w1 ⟨rfl, hr, hm⟩
      have k2 := hr.c2
      have hr2 := hid hr
      have hm2 := hid hm
      clear hr hm
      go_wp2
      go_ret
      rw [hv1.out]
      exact ⟨rfl, hr2.out, hm2.out⟩

end Go.Proofs.Ytanknjpcgceccaa
