/- The reference's Reader: each call's contract. -/
import Derived.Test.YtanknjpcgceccaaReadB
import Derived.Test.YtanknjpcgceccaaRead
import Derived.Deep.RegionWith
namespace Go.Proofs.Ytanknjpcgceccaa
open Go.RowKit

set_option maxHeartbeats 1000000 in
theorem Rnumber_any (n : Nat) (r : Nat) (ao : Option Addr) (cap : Nat) (bs : List UInt8) (at_ : Nat) (err : Int) (w : World) (h : RD w r ao cap bs at_ err) (hn : n = 4 ∨ n = 8) :
    Calls Try.prog 62 #[.pointer (some ⟨r, 0, none⟩), .int .i64 n] w (RPost w r ao cap bs (.int .u64 (rnum n bs at_ err).1) (rnum n bs at_ err).2.1 (rnum n bs at_ err).2.2) := by
  have h0 := h.c0
  have h1 := h.c1
  have h2 := h.c2
  have hz1 := h.f1
  have hz2 := h.f2
  have hle := h.le
  have hbig := h.big
  have H := hid h; have HN := hid hn
  have hn8 : n ≤ 8 := by omega
  by_cases he : err = 0
  · subst he
    by_cases hfit : at_ + n ≤ bs.length
    · have hfin : rnum n bs at_ 0 = (beval ((bs.drop at_).take n), at_ + n, 0) := by simp [rnum, hfit]
      rw [hfin]
      have HB := fun (w' : World) (hw : Quiet w w') => RBe_any ao cap bs at_ n w' (by obtain ⟨q, rfl⟩ := hw; exact (H.out.drewN q).sl) HN.out hfit (by omega)
      generalize beval ((bs.drop at_).take n) = v at HB ⊢
      have HBE := hid HB
      clear HB h hn hfin
      go_enter Try.func62, Try.ntmps62
      go_wp2_with fail
      go_quiet ((go_at_call 83; exact quiet_same (HBE.out _ ⟨_, rfl⟩)))
      have hset := hid ((H.out.drewN nq).set1 (at_ + n) hfit)
      have hm3 := hid ((Mods.drewN (fun k => k = r) w nq).trans (Mods.setCell (F := fun k => k = r) (a := ⟨r, 1, none⟩) rfl (.int .i64 (at_ + n : Nat))))
      have hcast : Hid (((at_ + n : Nat) : Int) = (at_ : Int) + (n : Int)) := by show _ = _; omega
      go_wp2
      go_ret
      rw [hcast.out] at hset hm3
      exact ⟨rfl, hset.out, hm3.out⟩
    · have hfin : rnum n bs at_ 0 = (0, at_, 11) := by simp [rnum, hfit]
      rw [hfin]
      have HBE := hid (fun (w' : World) => RBe_no ao cap bs at_ n w' HN.out (by omega) hle (by omega))
      clear h hn hfin
      go_enter Try.func62, Try.ntmps62
      go_wp2_with fail
      go_quiet ((go_at_call 83; exact quiet_same (HBE.out _)))
      have hset := hid ((H.out.drewN nq).set2 11)
      have hm3 := hid ((Mods.drewN (fun k => k = r) w nq).trans (Mods.setCell (F := fun k => k = r) (a := ⟨r, 2, none⟩) rfl (.int .i64 11)))
      go_wp2
      go_ret
      exact ⟨rfl, hset.out, hm3.out⟩
  · have hfin : rnum n bs at_ err = (0, at_, err) := by simp [rnum, he]
    have he' : (err != 0) = true := by simpa using he
    rw [hfin]
    clear h hn hfin
    go_enter Try.func62, Try.ntmps62
    go_wp2
    go_ret
    exact ⟨rfl, H.out, Mods.refl _ _⟩

set_option maxHeartbeats 400000 in
theorem RRU32_any (r : Nat) (ao : Option Addr) (cap : Nat) (bs : List UInt8) (at_ : Nat) (err : Int) (w : World) (h : RD w r ao cap bs at_ err) :
    Calls Try.prog 64 #[.pointer (some ⟨r, 0, none⟩)] w (RPost w r ao cap bs (.int .u32 (rnum 4 bs at_ err).1) (rnum 4 bs at_ err).2.1 (rnum 4 bs at_ err).2.2) := by
  have hlt := rnum4_lt bs at_ err
  have hN := Rnumber_any 4 r ao cap bs at_ err w h (.inl rfl)
  generalize rnum 4 bs at_ err = q at hlt hN ⊢
  obtain ⟨v, a', e'⟩ := q
  simp only at hlt hN ⊢
  have HN := hid hN
  clear hN h
  go_enter Try.func64, Try.ntmps64
  go_wp2_with fail
  refine HN.out.mono ?_
  rintro e w1 ⟨rfl, hr, hm⟩
  have hr2 := hid hr
  have hm2 := hid hm
  clear hr hm
  go_wp2
  go_ret
  exact ⟨rfl, hr2.out, hm2.out⟩

set_option maxHeartbeats 400000 in
theorem RRU64_any (r : Nat) (ao : Option Addr) (cap : Nat) (bs : List UInt8) (at_ : Nat) (err : Int) (w : World) (h : RD w r ao cap bs at_ err) :
    Calls Try.prog 31 #[.pointer (some ⟨r, 0, none⟩)] w (RPost w r ao cap bs (.int .u64 (rnum 8 bs at_ err).1) (rnum 8 bs at_ err).2.1 (rnum 8 bs at_ err).2.2) := by
  have hN := Rnumber_any 8 r ao cap bs at_ err w h (.inr rfl)
  generalize rnum 8 bs at_ err = q at hN ⊢
  obtain ⟨v, a', e'⟩ := q
  simp only at hN ⊢
  have HN := hid hN
  clear hN h
  go_enter Try.func31, Try.ntmps31
  go_wp2_with fail
  refine HN.out.mono ?_
  rintro e w1 ⟨rfl, hr, hm⟩
  have hr2 := hid hr
  have hm2 := hid hm
  clear hr hm
  go_wp2
  go_ret
  exact ⟨rfl, hr2.out, hm2.out⟩

set_option maxHeartbeats 400000 in
theorem Rfail_any (r : Nat) (ao : Option Addr) (cap : Nat) (bs : List UInt8) (at_ a' : Nat) (err e0 : Int) (w : World) (h : RD w r ao cap bs at_ err) (ha : a' ≤ bs.length) :
    Calls Try.prog 63 #[.pointer (some ⟨r, 0, none⟩), .int .i64 a', .int .i64 e0] w (RPost w r ao cap bs (.tuple #[]) a' e0) := by
  have h1 := h.c1
  have h2 := h.c2
  have hz1 := h.f1
  have hz2 := h.f2
  have H := hid ((h.set1 a' ha).set2 e0)
  have hm := hid ((Mods.setCell (F := fun k => k = r) (w := w) (a := ⟨r, 1, none⟩) rfl (.int .i64 a')).trans (Mods.setCell (F := fun k => k = r) (a := ⟨r, 2, none⟩) rfl (.int .i64 e0)))
  clear h
  go_enter Try.func63, Try.ntmps63
  go_wp2
  go_end0
  exact ⟨rfl, H.out, hm.out⟩

set_option maxHeartbeats 400000 in
theorem RRBool_any (r : Nat) (ao : Option Addr) (cap : Nat) (bs : List UInt8) (at_ : Nat) (err : Int) (w : World) (h : RD w r ao cap bs at_ err) :
    Calls Try.prog 28 #[.pointer (some ⟨r, 0, none⟩)] w (RPost w r ao cap bs (.bool (rbool bs at_ err).1) (rbool bs at_ err).2.1 (rbool bs at_ err).2.2) := by
  have hN := Rnumber_any 4 r ao cap bs at_ err w h (.inl rfl)
  have hpos := @rnum_pos 4 bs at_ err
  have hle := h.le
  unfold rbool
  generalize rnum 4 bs at_ err = q at hN hpos ⊢
  obtain ⟨v, a', e'⟩ := q
  simp only at hN hpos ⊢
  have HN := hid hN
  have h1 := h.c1
  clear hN h
  by_cases hv : 1 < v
  · obtain rfl : e' = 0 := hpos (by omega)
    rw [if_pos hv]
    clear hpos
    go_enter Try.func28, Try.ntmps28
    go_wp2_with fail
    refine HN.out.mono ?_
    rintro e w1 ⟨rfl, hr, hm⟩
    have k2 := hr.c2
    have hr2 := hid hr
    have hm2 := hid hm
    clear hr hm
    go_wp2_with fail
    refine (Rfail_any r ao cap bs a' at_ 0 15 _ hr2.out hle).mono ?_
    rintro e w2 ⟨rfl, hr3, hm3⟩
    have hr4 := hid hr3
    have hm4 := hid (hm2.out.trans hm3)
    clear hr3 hm3
    go_wp2
    go_ret
    exact ⟨rfl, hr4.out, hm4.out⟩
  · rw [if_neg hv]
    clear hpos
    have hv1 : Hid ((v == 1) = ((v : Int) == 1)) := by
      by_cases h : v = 1
      · subst h; rfl
      · show _ = _; rw [show (v == 1) = false by simpa using h, show ((v : Int) == 1) = false by rw [beq_eq_false_iff_ne]; omega]
    by_cases he : e' = 0
    · subst he
      go_enter Try.func28, Try.ntmps28
      go_wp2_with fail
      refine HN.out.mono ?_
      rintro e w1 ⟨rfl, hr, hm⟩
      have k2 := hr.c2
      have hr2 := hid hr
      have hm2 := hid hm
      clear hr hm
      go_wp2
      go_ret
      rw [hv1.out]
      exact ⟨rfl, hr2.out, hm2.out⟩
    · have he' : (e' == 0) = false := by simpa using he
      go_enter Try.func28, Try.ntmps28
      go_wp2_with fail
      refine HN.out.mono ?_
      rintro e w1 ⟨rfl, hr, hm⟩
      have k2 := hr.c2
      have hr2 := hid hr
      have hm2 := hid hm
      clear hr hm
      go_wp2
      go_ret
      rw [hv1.out]
      exact ⟨rfl, hr2.out, hm2.out⟩

end Go.Proofs.Ytanknjpcgceccaa

/- The reference's Reader.Fixed, Reader.Bytes. (Printed by wip/tools/gen_rfixed.py.) -/
namespace Go.Proofs.Ytanknjpcgceccaa
open Go.RowKit

theorem OwnB.empty' (w : World) {b : Nat} (hb : b = w.heap.size) : OwnB (w.alloc (.cells #[] 5)) (some ⟨b, 0, none⟩) 0 [] := hb ▸ OwnB.empty w
theorem Quiet.d1 (w : World) (n : Nat) : Quiet w (w.drewN n) := ⟨n, rfl⟩
theorem Quiet.d2 (w : World) (n m : Nat) : Quiet w ((w.drewN n).drewN m) := ⟨n + m, by rw [World.drewN_drewN]⟩
theorem Quiet.mods {w w' : World} (h : Quiet w w') (F : Nat → Prop) : Mods F w w' := by obtain ⟨n, rfl⟩ := h; exact Mods.drewN F w n

set_option maxHeartbeats 1000000 in
theorem RRFixed_err (n : Int) (r : Nat) (ao : Option Addr) (cap : Nat) (bs : List UInt8) (at_ : Nat) (err : Int) (w : World) (h : RD w r ao cap bs at_ err) (he : err ≠ 0) :
    Calls Try.prog 65 #[.pointer (some ⟨r, 0, none⟩), .int .i64 n] w (FPost w r ao cap bs [] at_ err) := by
  have hc2 := h.c2
  have H := hid h
  have he' : (err != 0) = true := by simpa using he
  clear h
  go_enter Try.func65, Try.ntmps65
  go_wp2
  go_ret
  exact ⟨none, 0, rfl, OwnB.nil _, fun _ h => h.elim, H.out, Mods.refl _ _⟩

set_option maxHeartbeats 1000000 in
theorem RRFixed_neg (n : Int) (hn : n < 0) (r : Nat) (ao : Option Addr) (cap : Nat) (bs : List UInt8) (at_ : Nat) (w : World) (h : RD w r ao cap bs at_ 0) :
    Calls Try.prog 65 #[.pointer (some ⟨r, 0, none⟩), .int .i64 n] w (FPost w r ao cap bs [] at_ 1) := by
  have hc2 := h.c2
  have hz2 := h.f2
  have hset := hid (h.set2 1)
  have hm := hid (Mods.setCell (F := fun k => k = r) (w := w) (a := ⟨r, 2, none⟩) rfl (.int .i64 1))
  clear h
  go_enter Try.func65, Try.ntmps65
  go_wp2
  go_ret
  exact ⟨none, 0, rfl, OwnB.nil _, fun _ h => h.elim, hset.out, hm.out⟩

theorem quad (n : Nat) : ((n : Int) + 3) / 4 * 4 = ((n + pad n : Nat) : Int) := by unfold pad; omega

set_option maxHeartbeats 1000000 in
theorem RRFixed_cut1 (n : Nat) (hn : n ≤ 9223372036854775807) (r : Nat) (ao : Option Addr) (cap : Nat) (bs : List UInt8) (at_ : Nat) (w : World) (h : RD w r ao cap bs at_ 0) (hcut : bs.length < at_ + n) :
    Calls Try.prog 65 #[.pointer (some ⟨r, 0, none⟩), .int .i64 n] w (FPost w r ao cap bs [] at_ 11) := by
  have hc2 := h.c2
  have hz2 := h.f2
  have HL := hid (RLeft_any r ao cap bs at_ 0 w h)
  have H := hid h
  have hle := h.le
  have hbig := h.big
  clear h
  go_enter Try.func65, Try.ntmps65
  go_wp2_with fail
  refine HL.out.mono ?_
  rintro e w0 ⟨rfl, q, rfl⟩
  have hset := hid ((H.out.drewN q).set2 11)
  have hm := hid ((Mods.drewN (fun k => k = r) w q).trans (Mods.setCell (F := fun k => k = r) (a := ⟨r, 2, none⟩) rfl (.int .i64 11)))
  go_wp2
  go_ret
  exact ⟨none, 0, rfl, OwnB.nil _, fun _ h => h.elim, hset.out, hm.out⟩

set_option maxHeartbeats 1000000 in
theorem RRFixed_cut2 (n : Nat) (r : Nat) (ao : Option Addr) (cap : Nat) (bs : List UInt8) (at_ : Nat) (w : World) (h : RD w r ao cap bs at_ 0) (hin : at_ + n ≤ bs.length) (hcut : bs.length < at_ + (n + pad n)) :
    Calls Try.prog 65 #[.pointer (some ⟨r, 0, none⟩), .int .i64 n] w (FPost w r ao cap bs [] at_ 11) := by
  have hc2 := h.c2
  have hz2 := h.f2
  have HL := hid (fun (w' : World) h => RLeft_any r ao cap bs at_ 0 w' h)
  have H := hid h
  have hle := h.le
  have hbig := h.big
  have hq := quad n
  have hpl : pad n ≤ 3 := by unfold pad; omega
  obtain ⟨m, hm⟩ : ∃ m, m = n + pad n := ⟨_, rfl⟩
  rw [← hm] at hq hcut
  have hm1 : m ≤ n + 3 := by omega
  clear h hm hpl
  go_enter Try.func65, Try.ntmps65
  go_wp2_with fail
  refine (HL.out _ H.out).mono ?_
  rintro e w0 ⟨rfl, q, rfl⟩
  go_wp2_with fail
  refine (HL.out _ (H.out.drewN q)).mono ?_
  rintro e w0 ⟨rfl, q2, rfl⟩
  rw [World.drewN_drewN]
  have hset := hid ((H.out.drewN (q + q2)).set2 11)
  have hm := hid ((Mods.drewN (fun k => k = r) w (q + q2)).trans (Mods.setCell (F := fun k => k = r) (a := ⟨r, 2, none⟩) rfl (.int .i64 11)))
  go_wp2
  go_ret
  exact ⟨none, 0, rfl, OwnB.nil _, fun _ h => h.elim, hset.out, hm.out⟩


set_option maxHeartbeats 2000000 in
theorem RRFixed_good (n : Nat) (r b o : Nat) (cap : Nat) (bs : List UInt8) (at_ : Nat) (w : World) (h : RD w r (some ⟨b, o, none⟩) cap bs at_ 0) (hcut : at_ + (n + pad n) ≤ bs.length) (hcap : at_ < cap)
    (hall0 : ((bs.drop (at_ + n)).take (pad n)).all (· == 0) = true) :
    Calls Try.prog 65 #[.pointer (some ⟨r, 0, none⟩), .int .i64 n] w (FPost w r (some ⟨b, o, none⟩) cap bs ((bs.drop at_).take n) (at_ + (n + pad n)) 0) := by
  have HL := hid (fun (w' : World) h => RLeft_any r (some ⟨b, o, none⟩) cap bs at_ 0 w' h)
  have H := hid h
  have hc0 := h.c0
  have hc1 := h.c1
  have hc2 := h.c2
  have hz1 := h.f1
  have hz2 := h.f2
  have hle := h.le
  have hbig := h.big
  have hcapl : bs.length ≤ cap := h.sl.2.1
  have hq := quad n
  have hpl : pad n ≤ 3 := by unfold pad; omega
  have HSP : Hid (∀ i, n ≤ i → i < n + pad n → ∃ y : UInt8, y = (bs.drop (at_ + n)).getD (i - n) 0 ∧ w.cell? ⟨b, o + (at_ + i), none⟩ = some (.int .u8 (y.toNat : Int))) := fun i h1 h2 => by
    obtain ⟨b', o', h3, h4⟩ := h.sl.at (j := at_ + i) (by omega)
    simp only [Option.some.injEq, Addr.mk.injEq, and_true] at h3
    obtain ⟨rfl, rfl⟩ := h3
    refine ⟨_, rfl, ?_⟩
    rw [h4]
    have h5 : at_ + i < bs.length := by omega
    have h6 : at_ + n + (i - n) = at_ + i := by omega
    simp [List.getD, List.getElem?_drop, h6, List.getElem?_eq_getElem h5]
  obtain ⟨pd, hpd⟩ : ∃ x, x = (bs.drop (at_ + n)).take (pad n) := ⟨_, rfl⟩
  have hpdl : Hid (pd.length = pad n) := by rw [hpd]; simp [Hid]; omega
  have hpdk : Hid (∀ k (hk : k < pd.length), (bs.drop (at_ + n)).getD k 0 = pd[k]) := fun k hk => by
    have hk2 : k < pad n := by rw [← hpdl.out]; exact hk
    have hk3 : at_ + n + k < bs.length := by omega
    simp [hpd, List.getD, List.getElem?_drop, List.getElem?_eq_getElem hk3]
  obtain ⟨out, hout⟩ : ∃ x, x = (bs.drop at_).take n := ⟨_, rfl⟩
  have hlen : Hid (out.length = n) := by rw [hout]; simp [Hid]; omega
  have HSL := hid (fun (w' : World) (hw : Mods (fun _ => False) w w') => (H.out.new hw).sl.sub at_ n (by omega) (a := ⟨b, o + at_, none⟩) (fun _ => rfl))
  rw [← hout] at HSL
  have hall : pd.all (· == 0) = true := by rw [hpd]; exact hall0
  have HALL := hid hall
  obtain ⟨m, hm⟩ : ∃ m, m = n + pad n := ⟨_, rfl⟩
  rw [← hm] at hq hcut HSP
  have HM := hid hm
  have hm1 : m ≤ n + 3 := by omega
  have hmn : n ≤ m := by omega
  have hk1 : (cap = at_) = False := by simp; omega
  have hk2 : (at_ = cap) = False := by simp; omega
  rw [← hout]
  clear h hm hpl hpd hout hall hall0
  go_enter Try.func65, Try.ntmps65
  go_wp2_with fail
  refine (HL.out _ H.out).mono ?_
  rintro e w0 ⟨rfl, q, rfl⟩
  go_wp2_with fail
  refine (HL.out _ (H.out.drewN q)).mono ?_
  rintro e w0 ⟨rfl, q2, rfl⟩
  rw [World.drewN_drewN]
  go_wp2
  go_quiet (fail)
  go_wp2
  go_loopw [6] (fun i wr => ∃ k : Nat, n ≤ k ∧ k ≤ m ∧ i = .int .i64 (k : Int) ∧ AllZ (pd.take (k - n)) ∧ Quiet w wr) (fun i _ => m - (intOf i).toNat)
  case atStart => exact ⟨n, by omega, by omega, by go_num, by rw [Nat.sub_self]; rfl, Quiet.d2 _ _ _⟩
  case round =>
    obtain ⟨k, hnk, hkm, rfl, hz, q3, rfl⟩ := hrel
    by_cases hlt2 : k < m
    · obtain ⟨y, hy1, hcell⟩ := HSP.out k hnk hlt2
      have hk3 : k - n < pd.length := by have := hpdl.out; have := HM.out; omega
      rw [hpdk.out _ hk3] at hy1
      have hstep := all_take_succ hk3
      have hz' : (pd.take (k - n)).all (· == 0) = true := hz
      rw [hz', Bool.true_and, ← hy1] at hstep
      clear hz'
      have hyl := y.toNat_lt
      have hy0 : y = 0 := by
        rw [hy1]
        have := List.all_eq_true.1 HALL.out pd[k - n] (by simp)
        simpa using this
      have hyn : (((y.toNat : Nat) : Int) != 0) = false := by rw [hy0]; rfl
      have hz2 : AllZ (pd.take (k + 1 - n)) := by
        unfold AllZ
        rw [show k + 1 - n = k - n + 1 by omega, hstep, hy0]; rfl
      clear hstep hy1 hk3 hz hy0
      go_wp2
      go_quiet (fail)
      go_wp2
      go_roundw
      case rel =>
        first
          | exact ⟨k + 1, by omega, by omega, by go_num, hz2, (by first | exact Quiet.d1 _ _ | exact Quiet.d2 _ _ _)⟩
          | (refine ⟨_, _, ⟨k + 1, by omega, by omega, ?_, hz2, (by first | exact Quiet.d1 _ _ | exact Quiet.d2 _ _ _)⟩, rfl, rfl⟩; go_num)
      case measure => simp [intOf]; omega
    · have hkm2 : k = m := by omega
      have hset := hid ((H.out.drewN q3).set1 (at_ + m) hcut)
      have hm5 := hid ((Mods.drewN (fun k => k = r) w q3).trans (Mods.setCell (F := fun k => k = r) (a := ⟨r, 1, none⟩) rfl (.int .i64 (at_ + m : Nat))))
      have hend : Hid (((at_ + m : Nat) : Int) = (at_ : Int) + (m : Int)) := by show _ = _; omega
      have hout1 : out.length ≤ 1000000000 := by rw [hlen.out]; omega
      have hsl0 := hid (HSL.out _ (Mods.drewN _ w q3))
      clear hkm2 hz
      rw [hend.out] at hset hm5
      have hsl1 := hid (hsl0.out.keep (Mods.setCell (F := fun k => k = r) (a := ⟨r, 1, none⟩) rfl (.int .i64 ((at_ : Int) + (m : Int)))) (fun k hk e => H.out.sep k ⟨by have h1 := hk.1; have h2 := hlen.out; have := H.out.le; omega, hk.2⟩ e))
      go_wp2_with (at_builtin; refine wpList_appB _ rfl _ _ rfl _ _ _ [] rfl rfl (OwnB.empty' _ (by simp [drewN_heap])) _ _ _ out rfl (by have := hlen.out; omega) (hsl1.out.alloc _) ?c2 ?_)
      case c2 => simp; omega
      intro ao4 cap4 cs4 w4 hcs4 ho4 hg4
      have hcs5 : Hid (cs4 = out) := hcs4
      have hf4 : Hid (∀ k, blk ao4 k → w.heap.size ≤ k) := fun k hk => by
        rcases hg4.fresh k hk with h | h
        · have h' : w.heap.size = k := h
          omega
        · simp [drewN_heap] at h; omega
      have hmm4 : Mods (fun _ => False) ((w.drewN q3).setCell ⟨r, 1, none⟩ (.int .i64 ((at_ : Int) + (m : Int)))) w4 := by
        refine (Mods.alloc _ _ _).step hg4.mods fun k hk h => ?_
        have h' : w.heap.size = k := h
        simp [drewN_heap] at hk
        omega
      have hr4 := hid (hset.out.new hmm4)
      have hm6 := hid (hm5.out.step hmm4 fun _ _ h => h.elim)
      have ho5 := hid ho4
      clear hcs4 hg4 hmm4 ho4 hset hm5
      go_wp2
      go_ret
      obtain rfl := hcs5.out
      have hM := HM.out
      subst hM
      exact ⟨ao4, cap4, rfl, ho5.out, hf4.out, hr4.out, hm6.out⟩


set_option maxHeartbeats 2000000 in
theorem RRFixed_bad (n : Nat) (r b o : Nat) (cap : Nat) (bs : List UInt8) (at_ : Nat) (w : World) (h : RD w r (some ⟨b, o, none⟩) cap bs at_ 0) (hcut : at_ + (n + pad n) ≤ bs.length) (hcap : at_ < cap)
    (hall0 : ¬ ((bs.drop (at_ + n)).take (pad n)).all (· == 0) = true) :
    Calls Try.prog 65 #[.pointer (some ⟨r, 0, none⟩), .int .i64 n] w (FPost w r (some ⟨b, o, none⟩) cap bs [] at_ 15) := by
  have HL := hid (fun (w' : World) h => RLeft_any r (some ⟨b, o, none⟩) cap bs at_ 0 w' h)
  have H := hid h
  have hc0 := h.c0
  have hc1 := h.c1
  have hc2 := h.c2
  have hz1 := h.f1
  have hz2 := h.f2
  have hle := h.le
  have hbig := h.big
  have hcapl : bs.length ≤ cap := h.sl.2.1
  have hq := quad n
  have hpl : pad n ≤ 3 := by unfold pad; omega
  have HSP : Hid (∀ i, n ≤ i → i < n + pad n → ∃ y : UInt8, y = (bs.drop (at_ + n)).getD (i - n) 0 ∧ w.cell? ⟨b, o + (at_ + i), none⟩ = some (.int .u8 (y.toNat : Int))) := fun i h1 h2 => by
    obtain ⟨b', o', h3, h4⟩ := h.sl.at (j := at_ + i) (by omega)
    simp only [Option.some.injEq, Addr.mk.injEq, and_true] at h3
    obtain ⟨rfl, rfl⟩ := h3
    refine ⟨_, rfl, ?_⟩
    rw [h4]
    have h5 : at_ + i < bs.length := by omega
    have h6 : at_ + n + (i - n) = at_ + i := by omega
    simp [List.getD, List.getElem?_drop, h6, List.getElem?_eq_getElem h5]
  obtain ⟨pd, hpd⟩ : ∃ x, x = (bs.drop (at_ + n)).take (pad n) := ⟨_, rfl⟩
  have hpdl : Hid (pd.length = pad n) := by rw [hpd]; simp [Hid]; omega
  have hpdk : Hid (∀ k (hk : k < pd.length), (bs.drop (at_ + n)).getD k 0 = pd[k]) := fun k hk => by
    have hk2 : k < pad n := by rw [← hpdl.out]; exact hk
    have hk3 : at_ + n + k < bs.length := by omega
    simp [hpd, List.getD, List.getElem?_drop, List.getElem?_eq_getElem hk3]
  obtain ⟨out, hout⟩ : ∃ x, x = (bs.drop at_).take n := ⟨_, rfl⟩
  have hlen : Hid (out.length = n) := by rw [hout]; simp [Hid]; omega
  have HSL := hid (fun (w' : World) (hw : Mods (fun _ => False) w w') => (H.out.new hw).sl.sub at_ n (by omega) (a := ⟨b, o + at_, none⟩) (fun _ => rfl))
  rw [← hout] at HSL
  have hall : ¬ pd.all (· == 0) = true := by rw [hpd]; exact hall0
  have HALL := hid hall
  obtain ⟨m, hm⟩ : ∃ m, m = n + pad n := ⟨_, rfl⟩
  rw [← hm] at hq hcut HSP
  have HM := hid hm
  have hm1 : m ≤ n + 3 := by omega
  have hmn : n ≤ m := by omega
  have hk1 : (cap = at_) = False := by simp; omega
  have hk2 : (at_ = cap) = False := by simp; omega
  clear h hm hpl hpd hout hall hall0
  go_enter Try.func65, Try.ntmps65
  go_wp2_with fail
  refine (HL.out _ H.out).mono ?_
  rintro e w0 ⟨rfl, q, rfl⟩
  go_wp2_with fail
  refine (HL.out _ (H.out.drewN q)).mono ?_
  rintro e w0 ⟨rfl, q2, rfl⟩
  rw [World.drewN_drewN]
  go_wp2
  go_quiet (fail)
  go_wp2
  go_loopw [6] (fun i wr => ∃ k : Nat, n ≤ k ∧ k ≤ m ∧ i = .int .i64 (k : Int) ∧ AllZ (pd.take (k - n)) ∧ Quiet w wr) (fun i _ => m - (intOf i).toNat)
  case atStart => exact ⟨n, by omega, by omega, by go_num, by rw [Nat.sub_self]; rfl, Quiet.d2 _ _ _⟩
  case round =>
    obtain ⟨k, hnk, hkm, rfl, hz, q3, rfl⟩ := hrel
    by_cases hlt2 : k < m
    · obtain ⟨y, hy1, hcell⟩ := HSP.out k hnk hlt2
      have hk3 : k - n < pd.length := by have := hpdl.out; have := HM.out; omega
      rw [hpdk.out _ hk3] at hy1
      have hstep := all_take_succ hk3
      have hz' : (pd.take (k - n)).all (· == 0) = true := hz
      rw [hz', Bool.true_and, ← hy1] at hstep
      clear hz'
      have hyl := y.toNat_lt
      by_cases hy0 : y = 0
      · have hyn : (((y.toNat : Nat) : Int) != 0) = false := by rw [hy0]; rfl
        have hz2 : AllZ (pd.take (k + 1 - n)) := by
          unfold AllZ
          rw [show k + 1 - n = k - n + 1 by omega, hstep, hy0]; rfl
        clear hstep hy1 hk3 hz hy0
        go_wp2
        go_quiet (fail)
        go_wp2
        go_roundw
        case rel =>
          first
            | exact ⟨k + 1, by omega, by omega, by go_num, hz2, (by first | exact Quiet.d1 _ _ | exact Quiet.d2 _ _ _)⟩
            | (refine ⟨_, _, ⟨k + 1, by omega, by omega, ?_, hz2, (by first | exact Quiet.d1 _ _ | exact Quiet.d2 _ _ _)⟩, rfl, rfl⟩; go_num)
        case measure => simp [intOf]; omega
      · have hyn : (((y.toNat : Nat) : Int) != 0) = true := by
          simp
          intro h
          exact hy0 (UInt8.toNat_inj.1 (by simpa using h))
        clear hstep hy1 hk3 hz
        go_wp2
        go_quiet (fail)
        try rw [World.drewN_drewN]
        have hset := hid ((H.out.drewN (q3 + nq)).set2 15)
        have hm5 := hid ((Mods.drewN (fun k => k = r) w (q3 + nq)).trans (Mods.setCell (F := fun k => k = r) (a := ⟨r, 2, none⟩) rfl (.int .i64 15)))
        go_wp2
        go_ret
        exact ⟨none, 0, rfl, OwnB.nil _, fun _ h => h.elim, hset.out, hm5.out⟩
    · exfalso
      have h1 : (pd.take (k - n)).all (· == 0) = true := hz
      rw [List.take_of_length_le (by have := hpdl.out; have := HM.out; omega)] at h1
      exact HALL.out h1


set_option maxHeartbeats 1000000 in
theorem RRFixed_zero_nil (r : Nat) (cap : Nat) (bs : List UInt8) (at_ : Nat) (w : World) (h : RD w r none cap bs at_ 0) :
    Calls Try.prog 65 #[.pointer (some ⟨r, 0, none⟩), .int .i64 0] w (FPost w r none cap bs [] at_ 0) := by
  have HL := hid (fun (w' : World) h => RLeft_any r none cap bs at_ 0 w' h)
  have H := hid h
  have hc0 := h.c0
  have hc1 := h.c1
  have hc2 := h.c2
  have hz1 := h.f1
  have hle := h.le
  have hbig := h.big
  have hcapl : bs.length ≤ cap := h.sl.2.1
  obtain rfl : cap = 0 := h.sl.2.2.1 rfl
  obtain rfl : bs = [] := List.eq_nil_of_length_eq_zero (by omega)
  obtain rfl : at_ = 0 := by simpa using hle
  clear h
  go_enter Try.func65, Try.ntmps65
  go_wp2_with fail
  refine (HL.out _ H.out).mono ?_
  rintro e w0 ⟨rfl, q, rfl⟩
  go_wp2_with fail
  refine (HL.out _ (H.out.drewN q)).mono ?_
  rintro e w0 ⟨rfl, q2, rfl⟩
  rw [World.drewN_drewN]
  go_wp2
  go_quiet (fail)
  go_wp2
  go_rounds 1
  go_ret
  refine ⟨some ⟨w.heap.size, 0, none⟩, 0, rfl, OwnB.empty' _ (by simp [drewN_heap]), fun k hk => Nat.le_of_eq hk, ((H.out.drewN _).set1 0 (Nat.zero_le _)).new (Mods.alloc _ _ _), ?_⟩
  exact ((Mods.drewN (fun k => k = r) w _).trans (Mods.setCell (F := fun k => k = r) (a := ⟨r, 1, none⟩) rfl (.int .i64 ((0 : Nat) : Int)))).trans (Mods.alloc _ _ _)


set_option maxHeartbeats 1000000 in
theorem RRFixed_zero_full (r : Nat) (a : Addr) (cap : Nat) (bs : List UInt8) (at_ : Nat) (w : World) (h : RD w r (some a) cap bs at_ 0) (hcap : cap = at_) :
    Calls Try.prog 65 #[.pointer (some ⟨r, 0, none⟩), .int .i64 0] w (FPost w r (some a) cap bs [] at_ 0) := by
  have HL := hid (fun (w' : World) h => RLeft_any r (some a) cap bs at_ 0 w' h)
  have H := hid h
  have hc0 := h.c0
  have hc1 := h.c1
  have hc2 := h.c2
  have hz1 := h.f1
  have hle := h.le
  have hbig := h.big
  have hcapl : bs.length ≤ cap := h.sl.2.1
  have hk1 : (cap = at_) = True := by simp [hcap]
  have hk2 : (at_ = cap) = True := by simp [hcap]
  have hwc : IntKind.i64.wrap (at_ : Int) = (at_ : Int) := IntWalk.i64_in _ (by omega)
  clear hcap
  clear h
  go_enter Try.func65, Try.ntmps65
  go_wp2_with fail
  refine (HL.out _ H.out).mono ?_
  rintro e w0 ⟨rfl, q, rfl⟩
  go_wp2_with fail
  refine (HL.out _ (H.out.drewN q)).mono ?_
  rintro e w0 ⟨rfl, q2, rfl⟩
  rw [World.drewN_drewN]
  go_wp2
  go_quiet (fail)
  go_wp2
  go_rounds 1
  go_ret
  refine ⟨some ⟨w.heap.size, 0, none⟩, 0, rfl, OwnB.empty' _ (by simp [drewN_heap]), fun k hk => Nat.le_of_eq hk, ((H.out.drewN _).set1 at_ hle).new (Mods.alloc _ _ _), ?_⟩
  exact ((Mods.drewN (fun k => k = r) w _).trans (Mods.setCell (F := fun k => k = r) (a := ⟨r, 1, none⟩) rfl (.int .i64 at_))).trans (Mods.alloc _ _ _)


set_option maxHeartbeats 1000000 in
theorem RRFixed_zero_front (r : Nat) (a : Addr) (cap : Nat) (bs : List UInt8) (at_ : Nat) (w : World) (h : RD w r (some a) cap bs at_ 0) (hcap : 0 < cap) (hat : at_ = 0) :
    Calls Try.prog 65 #[.pointer (some ⟨r, 0, none⟩), .int .i64 0] w (FPost w r (some a) cap bs [] at_ 0) := by
  have HL := hid (fun (w' : World) h => RLeft_any r (some a) cap bs at_ 0 w' h)
  have H := hid h
  have hc0 := h.c0
  have hc1 := h.c1
  have hc2 := h.c2
  have hz1 := h.f1
  have hle := h.le
  have hbig := h.big
  have hcapl : bs.length ≤ cap := h.sl.2.1
  subst hat
  have hk1 : (cap = 0) = False := by simp; omega
  have hk2 : (0 = cap) = False := by simp; omega
  clear h
  go_enter Try.func65, Try.ntmps65
  go_wp2_with fail
  refine (HL.out _ H.out).mono ?_
  rintro e w0 ⟨rfl, q, rfl⟩
  go_wp2_with fail
  refine (HL.out _ (H.out.drewN q)).mono ?_
  rintro e w0 ⟨rfl, q2, rfl⟩
  rw [World.drewN_drewN]
  go_wp2
  go_quiet (fail)
  go_wp2
  go_rounds 1
  go_ret
  refine ⟨some ⟨w.heap.size, 0, none⟩, 0, rfl, OwnB.empty' _ (by simp [drewN_heap]), fun k hk => Nat.le_of_eq hk, ((H.out.drewN _).set1 0 (Nat.zero_le _)).new (Mods.alloc _ _ _), ?_⟩
  exact ((Mods.drewN (fun k => k = r) w _).trans (Mods.setCell (F := fun k => k = r) (a := ⟨r, 1, none⟩) rfl (.int .i64 ((0 : Nat) : Int)))).trans (Mods.alloc _ _ _)


/-- n bytes, whatever n is. -/
theorem RRFixed_any (n : Int) (hn2 : n ≤ 9223372036854775807) (r : Nat) (ao : Option Addr) (cap : Nat) (bs : List UInt8) (at_ : Nat) (err : Int) (w : World) (h : RD w r ao cap bs at_ err) :
    Calls Try.prog 65 #[.pointer (some ⟨r, 0, none⟩), .int .i64 n] w (FPost w r ao cap bs (rfixed n bs at_ err).1 (rfixed n bs at_ err).2.1 (rfixed n bs at_ err).2.2) := by
  by_cases he : err = 0
  · subst he
    by_cases hneg : n < 0
    · have hf : rfixed n bs at_ 0 = ([], at_, 1) := by simp [rfixed, hneg]
      rw [hf]
      exact RRFixed_neg n hneg r ao cap bs at_ w h
    · obtain ⟨m, rfl⟩ := Int.eq_ofNat_of_zero_le (show 0 ≤ n by omega)
      have hf : rfixed (m : Int) bs at_ 0 = if bs.length < at_ + (m + pad m) then ([], at_, 11) else if ((bs.drop (at_ + m)).take (pad m)).all (· == 0) then ((bs.drop at_).take m, at_ + (m + pad m), 0) else ([], at_, 15) := by
        simp only [rfixed, if_true, if_neg hneg, Int.toNat_natCast]
      rw [hf]
      by_cases hcut : bs.length < at_ + (m + pad m)
      · rw [if_pos hcut]
        by_cases h1 : bs.length < at_ + m
        · exact RRFixed_cut1 m (by omega) r ao cap bs at_ w h h1
        · exact RRFixed_cut2 m r ao cap bs at_ w h (by omega) hcut
      · rw [if_neg hcut]
        have hcap : bs.length ≤ cap := h.sl.2.1
        have hle := h.le
        by_cases hm : m = 0
        · subst hm
          have hz : ((bs.drop (at_ + 0)).take (pad 0)).all (· == 0) = true := by rw [pad_zero]; rfl
          rw [if_pos hz]
          simp only [pad_zero, List.take_zero, Nat.add_zero]
          rcases ao with _ | a
          · exact RRFixed_zero_nil r cap bs at_ w h
          · by_cases hc : cap = at_
            · exact RRFixed_zero_full r a cap bs at_ w h hc
            · by_cases ha : at_ = 0
              · exact RRFixed_zero_front r a cap bs at_ w h (by omega) ha
              · obtain ⟨b, o, hbo, _⟩ := h.sl.at (j := 0) (by omega)
                cases hbo
                have := RRFixed_good 0 r b o cap bs at_ w h (by rw [pad_zero]; omega) (by omega) hz
                simpa only [pad_zero, List.take_zero, Nat.add_zero] using this
        · have hat : at_ < cap := by omega
          obtain ⟨b, o, hbo, _⟩ := h.sl.at (j := 0) (by omega)
          cases hbo
          by_cases hall : ((bs.drop (at_ + m)).take (pad m)).all (· == 0) = true
          · rw [if_pos hall]
            exact RRFixed_good m r b o cap bs at_ w h (by omega) hat hall
          · rw [if_neg hall]
            exact RRFixed_bad m r b o cap bs at_ w h (by omega) hat hall
  · rw [rfixed_of_err he]
    exact RRFixed_err n r ao cap bs at_ err w h he

end Go.Proofs.Ytanknjpcgceccaa

/- The reference's Reader.Bytes; the law's read. -/
namespace Go.Proofs.Ytanknjpcgceccaa
open Go.RowKit

theorem rnum_err_at {n : Nat} {bs : List UInt8} {at_ : Nat} {err : Int} (h : (rnum n bs at_ err).2.2 ≠ 0) : (rnum n bs at_ err).2.1 = at_ := by
  unfold rnum at *
  split
  · rename_i he
    rw [if_pos he] at h
    split
    · rename_i hf; rw [if_pos hf] at h; exact absurd rfl h
    · rfl
  · rfl

set_option maxHeartbeats 1000000 in
theorem RRBytes_any (most : Int) (r : Nat) (ao : Option Addr) (cap : Nat) (bs : List UInt8) (at_ : Nat) (err : Int) (w : World) (h : RD w r ao cap bs at_ err) (hmost : -9223372036854775808 ≤ most ∧ most ≤ 9223372036854775807) :
    Calls Try.prog 33 #[.pointer (some ⟨r, 0, none⟩), .int .i64 most] w (FPost w r ao cap bs (rbytes most bs at_ err).1 (rbytes most bs at_ err).2.1 (rbytes most bs at_ err).2.2) := by
  have hU := RRU32_any r ao cap bs at_ err w h
  have hlt := rnum4_lt bs at_ err
  have h1 := h.c1
  have hle := h.le
  have hea := @rnum_err_at 4 bs at_ err
  have hm0 := hmost.1
  have hm9 := hmost.2
  have hrb : rbytes most bs at_ err = (let r := rnum 4 bs at_ err
    if r.2.2 = 0 then if most < r.1 then ([], at_, 5) else (let f := rfixed r.1 bs r.2.1 0; if f.2.2 = 0 then f else ([], at_, f.2.2)) else ([], at_, r.2.2)) := rfl
  generalize rnum 4 bs at_ err = q at hU hlt hrb hea
  obtain ⟨v, a', e'⟩ := q
  simp only at hU hlt hrb hea
  have HU := hid hU
  clear hU h hmost
  by_cases he : e' = 0
  · subst he
    clear hea
    rw [if_pos rfl] at hrb
    by_cases hm : most < v
    · rw [if_pos hm] at hrb
      rw [hrb]
      clear hrb
      go_enter Try.func33, Try.ntmps33
      go_wp2_with fail
      refine HU.out.mono ?_
      rintro e w1 ⟨rfl, hr, hm1⟩
      have k2 := hr.c2
      have hr1 := hid hr
      have hm1' := hid hm1
      clear hr hm1
      go_wp2_with fail
      refine (Rfail_any r ao cap bs a' at_ 0 5 w1 hr1.out hle).mono ?_
      rintro e w2 ⟨rfl, hr, hm2⟩
      have hr2 := hid hr
      have hm2' := hid (hm1'.out.trans hm2)
      clear hr hm2
      go_wp2
      go_ret
      exact ⟨none, 0, rfl, OwnB.nil _, fun _ h => h.elim, hr2.out, hm2'.out⟩
    · rw [if_neg hm] at hrb
      have hF := fun w1 hr => RRFixed_any v (by omega) r ao cap bs a' 0 w1 hr
      have hE := @rfixed_err v bs a' 0
      generalize rfixed v bs a' 0 = f at hF hE hrb
      obtain ⟨out, a2, e2⟩ := f
      simp only at hF hE hrb
      have HF := hid hF
      clear hF
      by_cases he2 : e2 = 0
      · subst he2
        rw [if_pos rfl] at hrb
        rw [hrb]
        clear hrb hE
        go_enter Try.func33, Try.ntmps33
        go_wp2_with fail
        refine HU.out.mono ?_
        rintro e w1 ⟨rfl, hr, hm1⟩
        have k2 := hr.c2
        have hr1 := hid hr
        have hm1' := hid hm1
        clear hr hm1
        go_wp2_with fail
        refine (HF.out w1 hr1.out).mono ?_
        rintro e w3 ⟨xo, xc, rfl, ho, hf, hr, hm3⟩
        have k2 := hr.c2
        have hr3 := hid hr
        have ho3 := hid ho
        have hf3 : Hid (∀ k, blk xo k → w.heap.size ≤ k) := fun k hk => Nat.le_trans hm1'.out.size (hf k hk)
        have hm3' := hid (hm1'.out.trans hm3)
        clear hr hm3 ho hf
        go_wp2
        go_ret
        exact ⟨xo, xc, rfl, ho3.out, hf3.out, hr3.out, hm3'.out⟩
      · rw [if_neg he2] at hrb
        rw [hrb]
        obtain rfl : out = [] := hE he2
        have hne : (e2 != 0) = true := by simpa using he2
        clear hrb hE
        go_enter Try.func33, Try.ntmps33
        go_wp2_with fail
        refine HU.out.mono ?_
        rintro e w1 ⟨rfl, hr, hm1⟩
        have k2 := hr.c2
        have hr1 := hid hr
        have hm1' := hid hm1
        clear hr hm1
        go_wp2_with fail
        refine (HF.out w1 hr1.out).mono ?_
        rintro e w3 ⟨xo, xc, rfl, ho, hf, hr, hm3⟩
        have k2 := hr.c2
        have kz := hr.f1
        have k1 := hr.c1
        have hset := hid (hr.set1 at_ hle)
        have hm3' := hid ((hm1'.out.trans hm3).trans (Mods.setCell (F := fun k => k = r) (a := ⟨r, 1, none⟩) rfl (.int .i64 at_)))
        clear hr hm3 ho hf
        go_wp2
        go_ret
        exact ⟨none, 0, rfl, OwnB.nil _, fun _ h => h.elim, hset.out, hm3'.out⟩
  · rw [if_neg he] at hrb
    rw [hrb]
    obtain rfl : a' = at_ := hea he
    have hne : (e' != 0) = true := by simpa using he
    clear hrb hea
    go_enter Try.func33, Try.ntmps33
    go_wp2_with fail
    refine HU.out.mono ?_
    rintro e w1 ⟨rfl, hr, hm1⟩
    have k2 := hr.c2
    have hr1 := hid hr
    have hm1' := hid hm1
    clear hr hm1
    go_wp2
    go_ret
    exact ⟨none, 0, rfl, OwnB.nil _, fun _ h => h.elim, hr1.out, hm1'.out⟩

/-- Two readers of the same bytes at the same place. -/
structure RR (B0 : Nat) (w : World) (p : Nat) (ao : Option Addr) (cap : Nat) (q : Nat) (bo : Option Addr) (bcap : Nat) (bs : List UInt8) (at_ : Nat) (err : Int) : Prop where
  one : RD w p ao cap bs at_ err
  two : RD w q bo bcap bs at_ err
  ne : p ≠ q
  bp : ∀ k, rb bo bs.length k → k ≠ p
  aq : ∀ k, rb ao bs.length k → k ≠ q
  lp : B0 ≤ p
  lq : B0 ≤ q

end Go.Proofs.Ytanknjpcgceccaa
