/- xdr's Reader: its methods. -/
import Derived.Test.YtanknjpcgceccaaReader
import Derived.Deep.RegionHeld3
namespace Go.Proofs.Ytanknjpcgceccaa
open Go.RowKit

set_option maxHeartbeats 400000 in
theorem Err_any (r : Nat) (ao : Option Addr) (cap : Nat) (bs : List UInt8) (at_ : Nat) (err : Int) (w : World) (h : RD w r ao cap bs at_ err) :
    Calls Try.prog 60 #[.pointer (some ⟨r, 0, none⟩)] w fun e w' => e = .returned (.int .i64 err) ∧ w = w' := by
  have h2 := h.c2
  clear h
  go_enter Try.func60, Try.ntmps60
  go_wp2
  go_ret
  exact ⟨rfl, rfl⟩

set_option maxHeartbeats 400000 in
theorem Left_any (r : Nat) (ao : Option Addr) (cap : Nat) (bs : List UInt8) (at_ : Nat) (err : Int) (w : World) (h : RD w r ao cap bs at_ err) :
    Calls Try.prog 61 #[.pointer (some ⟨r, 0, none⟩)] w fun e w' => e = .returned (.int .i64 ((bs.length : Int) - (at_ : Int))) ∧ Quiet w w' := by
  have h0 := h.c0
  have h1 := h.c1
  have hle := h.le
  have hbig := h.big
  clear h
  go_enter Try.func61, Try.ntmps61
  go_wp2
  go_quiet (fail)
  go_wp2
  go_ret
  exact ⟨by go_num, _, rfl⟩

set_option maxHeartbeats 400000 in
theorem RLeft_any (r : Nat) (ao : Option Addr) (cap : Nat) (bs : List UInt8) (at_ : Nat) (err : Int) (w : World) (h : RD w r ao cap bs at_ err) :
    Calls Try.prog 35 #[.pointer (some ⟨r, 0, none⟩)] w fun e w' => e = .returned (.int .i64 ((bs.length : Int) - (at_ : Int))) ∧ Quiet w w' := by
  have h0 := h.c0
  have h1 := h.c1
  have hle := h.le
  have hbig := h.big
  clear h
  go_enter Try.func35, Try.ntmps35
  go_wp2
  go_quiet (fail)
  go_wp2
  go_ret
  exact ⟨by go_num, _, rfl⟩

theorem rnum4_lt (bs : List UInt8) (at_ : Nat) (err : Int) : (rnum 4 bs at_ err).1 < 4294967296 := by
  unfold rnum
  split
  · split
    · have := beval_lt ((bs.drop at_).take 4)
      have h2 : ((bs.drop at_).take 4).length ≤ 4 := List.length_take_le _ _
      have h3 : 256 ^ ((bs.drop at_).take 4).length ≤ 256 ^ 4 := Nat.pow_le_pow_right (by decide) h2
      simp only
      omega
    · simp
  · simp
theorem rnum8_lt (bs : List UInt8) (at_ : Nat) (err : Int) : (rnum 8 bs at_ err).1 < 18446744073709551616 := by
  unfold rnum
  split
  · split
    · have := beval_lt ((bs.drop at_).take 8)
      have h2 : ((bs.drop at_).take 8).length ≤ 8 := List.length_take_le _ _
      have h3 : 256 ^ ((bs.drop at_).take 8).length ≤ 256 ^ 8 := Nat.pow_le_pow_right (by decide) h2
      simp only
      omega
    · simp
  · simp

set_option maxHeartbeats 400000 in
theorem RDU32_any (r : Nat) (ao : Option Addr) (cap : Nat) (bs : List UInt8) (at_ : Nat) (err : Int) (w : World) (h : RD w r ao cap bs at_ err) :
    Calls Try.prog 78 #[.pointer (some ⟨r, 0, none⟩)] w (RPost w r ao cap bs (.int .u32 (rnum 4 bs at_ err).1) (rnum 4 bs at_ err).2.1 (rnum 4 bs at_ err).2.2) := by
  have hlt := rnum4_lt bs at_ err
  have hN := number_any 4 r ao cap bs at_ err w h (.inl rfl)
  generalize rnum 4 bs at_ err = q at hlt hN ⊢
  obtain ⟨v, a', e'⟩ := q
  simp only at hlt hN ⊢
  have HN := hid hN
  have hc := h.c0
  clear hN h
  go_enter Try.func78, Try.ntmps78
  go_wp2_with fail
  refine HN.out.mono ?_
  rintro e w1 ⟨rfl, hr, hm⟩
  have hr2 := hid hr
  have hm2 := hid hm
  clear hr hm
  go_wp2
  go_ret
  exact ⟨rfl, hr2.out, hm2.out⟩

set_option maxHeartbeats 400000 in
theorem RDU64_any (r : Nat) (ao : Option Addr) (cap : Nat) (bs : List UInt8) (at_ : Nat) (err : Int) (w : World) (h : RD w r ao cap bs at_ err) :
    Calls Try.prog 80 #[.pointer (some ⟨r, 0, none⟩)] w (RPost w r ao cap bs (.int .u64 (rnum 8 bs at_ err).1) (rnum 8 bs at_ err).2.1 (rnum 8 bs at_ err).2.2) := by
  have hN := number_any 8 r ao cap bs at_ err w h (.inr rfl)
  generalize rnum 8 bs at_ err = q at hN ⊢
  obtain ⟨v, a', e'⟩ := q
  simp only at hN ⊢
  have HN := hid hN
  have hc := h.c0
  clear hN h
  go_enter Try.func80, Try.ntmps80
  go_wp2_with fail
  refine HN.out.mono ?_
  rintro e w1 ⟨rfl, hr, hm⟩
  have hr2 := hid hr
  have hm2 := hid hm
  clear hr hm
  go_wp2
  go_ret
  exact ⟨rfl, hr2.out, hm2.out⟩

theorem rnum_pos {n : Nat} {bs : List UInt8} {at_ : Nat} {err : Int} (h : 0 < (rnum n bs at_ err).1) : (rnum n bs at_ err).2.2 = 0 := by
  unfold rnum at *
  split
  · rename_i he
    rw [if_pos he] at h
    split
    · rfl
    · rename_i hf; rw [if_neg hf] at h; simp at h
  · rename_i he; rw [if_neg he] at h; simp at h
theorem rnum_le {n : Nat} {bs : List UInt8} {at_ : Nat} {err : Int} (h : at_ ≤ bs.length) : (rnum n bs at_ err).2.1 ≤ bs.length := by
  unfold rnum
  split
  · split <;> simp_all
  · exact h

set_option maxHeartbeats 400000 in
theorem RDBool_any (r : Nat) (ao : Option Addr) (cap : Nat) (bs : List UInt8) (at_ : Nat) (err : Int) (w : World) (h : RD w r ao cap bs at_ err) :
    Calls Try.prog 76 #[.pointer (some ⟨r, 0, none⟩)] w (RPost w r ao cap bs (.bool (rbool bs at_ err).1) (rbool bs at_ err).2.1 (rbool bs at_ err).2.2) := by
  have hN := number_any 4 r ao cap bs at_ err w h (.inl rfl)
  have hpos := @rnum_pos 4 bs at_ err
  have hlt := rnum4_lt bs at_ err
  have hle := h.le
  unfold rbool
  generalize rnum 4 bs at_ err = q at hN hpos hlt ⊢
  obtain ⟨v, a', e'⟩ := q
  simp only at hN hpos hlt ⊢
  have HN := hid hN
  have h1 := h.c1
  have hc := h.c0
  clear hN h
  by_cases hv : 1 < v
  · obtain rfl : e' = 0 := hpos (by omega)
    rw [if_pos hv]
    clear hpos
    go_enter Try.func76, Try.ntmps76
    go_wp2_with fail
    refine HN.out.mono ?_
    rintro e w1 ⟨rfl, hr, hm⟩
    have hr2 := hid (hr.set1 at_ hle)
    have hm2 := hid (hm.trans (Mods.setCell (F := fun k => k = r) (a := ⟨r, 1, none⟩) rfl (.int .i64 at_)))
    have k1 := hr.c1
    have kz := hr.f1
    clear hr hm
    go_wp2_with fail
    refine (fail_any r ao cap bs at_ 0 15 _ hr2.out).mono ?_
    rintro e w2 ⟨rfl, hr3, hm3⟩
    have hr4 := hid hr3
    have hm4 := hid (hm2.out.trans hm3)
    have hv1 : ((v : Int) == 1) = false := by rw [beq_eq_false_iff_ne]; omega
    clear hr3 hm3
    go_wp2
    go_ret
    exact ⟨rfl, hr4.out, hm4.out⟩
  · rw [if_neg hv]
    clear hpos
    have hv1 : Hid ((v == 1) = ((v : Int) == 1)) := by
      by_cases h : v = 1
      · subst h; rfl
      · show _ = _; rw [show (v == 1) = false by simpa using h, show ((v : Int) == 1) = false by rw [beq_eq_false_iff_ne]; omega]
    go_enter Try.func76, Try.ntmps76
    go_wp2_with fail
    refine HN.out.mono ?_
    rintro e w1 ⟨rfl, hr, hm⟩
    have hr2 := hid hr
    have hm2 := hid hm
    clear hr hm
    go_wp2
    go_ret
    rw [hv1.out]
    exact ⟨rfl, hr2.out, hm2.out⟩

/-- A slice cut out of a slice that is read, at whatever address it is said to lie. -/
theorem SlB.sub {w : World} {b o cap : Nat} {bs : List UInt8} (h : SlB w (some ⟨b, o, none⟩) cap bs) (lo n : Nat) (hn : lo + n ≤ bs.length) {a : Addr} (ha : n ≠ 0 → a = ⟨b, o + lo, none⟩) :
    SlB w (some a) (cap - lo) ((bs.drop lo).take n) := by
  have hl : ((bs.drop lo).take n).length = n := by simp; omega
  have hc : bs.length ≤ cap := h.2.1
  refine ⟨by simp, by rw [hl]; omega, by simp, fun j u hu => ?_⟩
  have hj : j < n := by
    have := (List.getElem?_eq_some_iff.1 hu).1
    simp at this; omega
  have ha' := ha (by omega)
  subst ha'
  refine ⟨b, o + lo, rfl, ?_⟩
  obtain ⟨b', o', h1, h2⟩ := h.at (j := lo + j) (by omega)
  simp only [Option.some.injEq, Addr.mk.injEq, and_true] at h1
  obtain ⟨rfl, rfl⟩ := h1
  rw [Nat.add_assoc, h2]
  rw [List.getElem?_map] at hu
  have : ((bs.drop lo).take n)[j]? = some bs[lo + j] := by
    rw [List.getElem?_take, if_pos hj, List.getElem?_drop]; simp
  rw [this] at hu
  simpa [B] using hu

/-- What a reader that hands bytes back leaves. -/
def FPost (w : World) (r : Nat) (ao : Option Addr) (cap : Nat) (bs : List UInt8) (out : List UInt8) (at_ : Nat) (err : Int) (e : Ending) (w' : World) : Prop :=
  ∃ xo xc, e = .returned (.slice xo out.length xc) ∧ OwnB w' xo xc out ∧ (∀ k, blk xo k → w.heap.size ≤ k) ∧ RD w' r ao cap bs at_ err ∧ Mods (fun k => k = r) w w'

set_option maxHeartbeats 1000000 in
theorem RDFixed_neg (n : Int) (hn : n < 0) (hn2 : -9223372036854775808 ≤ n) (r : Nat) (ao : Option Addr) (cap : Nat) (bs : List UInt8) (at_ : Nat) (err : Int) (w : World) (h : RD w r ao cap bs at_ err) :
    Calls Try.prog 97 #[.pointer (some ⟨r, 0, none⟩), .int .i64 n] w (FPost w r ao cap bs (rfixed n bs at_ err).1 (rfixed n bs at_ err).2.1 (rfixed n bs at_ err).2.2) := by
  have hfin : rfixed n bs at_ err = ([], at_, if err = 0 then 1 else err) := by
    unfold rfixed
    by_cases he : err = 0
    · simp [he, hn]
    · simp [he]
  rw [hfin]
  have hF := fail_any r ao cap bs at_ err 1 w h
  have hne : ((if err = 0 then (1 : Int) else err) != 0) = true := by
    by_cases he : err = 0
    · simp [he]
    · simp [he]
  generalize (if err = 0 then (1 : Int) else err) = e' at hF hne ⊢
  have HF := hid hF
  have hc := h.c0
  clear hF hfin h
  go_enter Try.func97, Try.ntmps97
  go_wp2_with fail
  refine HF.out.mono ?_
  rintro e w1 ⟨rfl, hr, hm⟩
  have k2 := hr.c2
  have hr2 := hid hr
  have hm2 := hid hm
  clear hr hm
  go_wp2
  go_ret
  exact ⟨none, 0, rfl, OwnB.nil _, fun _ h => h.elim, hr2.out, hm2.out⟩

set_option maxHeartbeats 1000000 in
theorem RDFixed_cut (n : Nat) (hn : n ≤ 9223372036854775807) (r : Nat) (ao : Option Addr) (cap : Nat) (bs : List UInt8) (at_ : Nat) (err : Int) (w : World) (h : RD w r ao cap bs at_ err) (hcut : bs.length < at_ + (n + pad n)) :
    Calls Try.prog 97 #[.pointer (some ⟨r, 0, none⟩), .int .i64 n] w (FPost w r ao cap bs (rfixed n bs at_ err).1 (rfixed n bs at_ err).2.1 (rfixed n bs at_ err).2.2) := by
  have hn0 : ¬ ((n : Int) < 0) := by omega
  have hfin : rfixed n bs at_ err = ([], at_, if err = 0 then 11 else err) := by
    unfold rfixed
    by_cases he : err = 0
    · simp only [he, if_true, if_neg hn0, Int.toNat_natCast, if_pos hcut]
    · simp [he]
  rw [hfin]
  have hF := fun (w' : World) h => fail_any r ao cap bs at_ err 11 w' h
  have hne : ((if err = 0 then (11 : Int) else err) != 0) = true := by
    by_cases he : err = 0
    · simp [he]
    · simp [he]
  generalize (if err = 0 then (11 : Int) else err) = e' at hF hne ⊢
  have HF := hid hF
  have HL := hid (Left_any r ao cap bs at_ err w h)
  have hc := h.c0
  have hle := h.le
  have hbig := h.big
  have H := hid h
  have hband : bits BinOp.and IntKind.i64 (-(n : Int)) 3 = ((pad n : Nat) : Int) := by rw [i64_and3]; unfold pad; omega
  have hpl : pad n ≤ 3 := by unfold pad; omega
  clear hF hfin h
  go_enter Try.func97, Try.ntmps97
  go_wp2_with fail
  refine HL.out.mono ?_
  rintro e w0 ⟨rfl, hq⟩
  obtain ⟨q, rfl⟩ := hq
  go_wp2_with fail
  refine (HF.out _ (H.out.drewN q)).mono ?_
  rintro e w1 ⟨rfl, hr, hm⟩
  have k2 := hr.c2
  have hr2 := hid hr
  have hm2 := hid ((Mods.drewN _ w q).trans hm)
  clear hr hm
  go_wp2
  go_ret
  exact ⟨none, 0, rfl, OwnB.nil _, fun _ h => h.elim, hr2.out, hm2.out⟩

set_option maxHeartbeats 1000000 in
theorem RDFixed_err (n : Nat) (hn : n ≤ 9223372036854775807) (r : Nat) (ao : Option Addr) (cap : Nat) (bs : List UInt8) (at_ : Nat) (err : Int) (w : World) (h : RD w r ao cap bs at_ err) (hcut : at_ + (n + pad n) ≤ bs.length) (he : err ≠ 0) :
    Calls Try.prog 97 #[.pointer (some ⟨r, 0, none⟩), .int .i64 n] w (FPost w r ao cap bs (rfixed n bs at_ err).1 (rfixed n bs at_ err).2.1 (rfixed n bs at_ err).2.2) := by
  have hfin : rfixed n bs at_ err = ([], at_, err) := by simp [rfixed, he]
  rw [hfin]
  have HL := hid (Left_any r ao cap bs at_ err w h)
  have hc := h.c0
  have hc2 := h.c2
  have hle := h.le
  have hbig := h.big
  have H := hid h
  have hband : bits BinOp.and IntKind.i64 (-(n : Int)) 3 = ((pad n : Nat) : Int) := by rw [i64_and3]; unfold pad; omega
  have hpl : pad n ≤ 3 := by unfold pad; omega
  have he' : (err != 0) = true := by simpa using he
  clear hfin h
  go_enter Try.func97, Try.ntmps97
  go_wp2_with fail
  refine HL.out.mono ?_
  rintro e w0 ⟨rfl, hq⟩
  obtain ⟨q, rfl⟩ := hq
  go_wp2
  go_ret
  exact ⟨none, 0, rfl, OwnB.nil _, fun _ h => h.elim, H.out.drewN q, Mods.drewN _ w q⟩

theorem pad_zero : pad 0 = 0 := by decide

set_option maxHeartbeats 1000000 in
theorem RDFixed_empty (r : Nat) (ao : Option Addr) (cap : Nat) (w : World) (h : RD w r ao cap [] 0 0) :
    Calls Try.prog 97 #[.pointer (some ⟨r, 0, none⟩), .int .i64 0] w (FPost w r ao cap [] [] 0 0) := by
  have HL := hid (Left_any r ao cap [] 0 0 w h)
  have hc0 : w.cell? ⟨r, 0, none⟩ = some (.slice ao 0 cap) := h.c0
  have hc1 : w.cell? ⟨r, 1, none⟩ = some (.int .i64 0) := h.c1
  have hc2 := h.c2
  have hf1 := h.f1
  have H := hid h
  have hnil : ao = none → cap = 0 := h.sl.2.2.1
  clear h
  have HCL := fun (w' : World) (xo : Option Addr) (xc : Nat) (hx : xo = none → xc = 0) => Clone_any xo xc [] w' ⟨rfl, Nat.zero_le _, hx, fun j u hu => by simp at hu⟩ (by simp)
  have HC := hid HCL
  clear HCL
  have hband : bits BinOp.and IntKind.i64 0 3 = 0 := by rw [i64_and3]; rfl
  have hw0 : IntKind.i64.wrap 0 = 0 := by rw [IntKind.wrap_i64]; omega
  have cases3 : (ao = none ∧ cap = 0) ∨ (∃ a, ao = some a ∧ cap = 0) ∨ (∃ a, ao = some a ∧ 0 < cap) := by
    rcases ao with _ | a
    · exact .inl ⟨rfl, hnil rfl⟩
    · rcases Nat.eq_zero_or_pos cap with h | h
      · exact .inr (.inl ⟨a, rfl, h⟩)
      · exact .inr (.inr ⟨a, rfl, h⟩)
  clear hnil
  rcases cases3 with ⟨rfl, rfl⟩ | ⟨a, rfl, rfl⟩ | ⟨a, rfl, hpos⟩
  · go_enter Try.func97, Try.ntmps97
    go_wp2_with fail
    refine HL.out.mono ?_
    rintro e w0 ⟨rfl, hq⟩
    obtain ⟨q, rfl⟩ := hq
    go_wp2
    go_quiet (fail)
    go_wp2
    go_rounds 1
    go_wp2_with fail
    go_region_held3 (fun w' => w'.cell? ⟨r, 0, none⟩ = some (.slice none 0 0) ∧ w'.cell? ⟨r, 1, none⟩ = some (.int .i64 0))
      (first | exact ⟨hc0, hc1⟩ | exact ⟨hc0', hc1'⟩)
      (first | (go_at_call 50; refine (HC.out _ _ _ (by simp)).mono ?_; rintro e w4 ⟨ao4, cap4, rfl, ho4, hg4⟩; have hm4 := (Mods.drewN (fun k => k = r) w _).trans ((Mods.drew _ _).trans (hg4.mods.mono fun _ _ h => h.elim)); have H4 := H.out.new ((Mods.drewN _ w _).trans ((Mods.drew _ _).trans hg4.mods)); have hc0' := H4.c0; have hc1' := H4.c1))
    have kz := H4.f1
    have ho5 := hid (ho4.keep (Mods.setCell (F := fun k => k = r) (a := ⟨r, 1, none⟩) rfl (.int .i64 0)) (fun k hk e => by
      have := H.out.lt
      rcases hg4.fresh k hk with h | h
      · exact h
      · simp [drewN_heap] at h; omega))
    have hf5 : Hid (∀ k, blk ao4 k → w.heap.size ≤ k) := fun k hk => by
      rcases hg4.fresh k hk with h | h
      · exact h.elim
      · simpa [drewN_heap] using h
    have hset := hid (H4.set1 0 (Nat.zero_le _))
    have hm5 := hid (hm4.trans (Mods.setCell (F := fun k => k = r) (a := ⟨r, 1, none⟩) rfl (.int .i64 0)))
    clear H4 hm4 hg4 ho4
    go_wp2
    go_ret
    exact ⟨ao4, cap4, rfl, ho5.out, hf5.out, hset.out, hm5.out⟩
  · go_enter Try.func97, Try.ntmps97
    go_wp2_with fail
    refine HL.out.mono ?_
    rintro e w0 ⟨rfl, hq⟩
    obtain ⟨q, rfl⟩ := hq
    go_wp2
    go_quiet (fail)
    go_wp2
    go_rounds 1
    go_wp2_with fail
    go_region_held3 (fun w' => w'.cell? ⟨r, 0, none⟩ = some (.slice (some a) 0 0) ∧ w'.cell? ⟨r, 1, none⟩ = some (.int .i64 0))
      (first | exact ⟨hc0, hc1⟩ | exact ⟨hc0', hc1'⟩)
      (first | (go_at_call 50; refine (HC.out _ _ _ (by simp)).mono ?_; rintro e w4 ⟨ao4, cap4, rfl, ho4, hg4⟩; have hm4 := (Mods.drewN (fun k => k = r) w _).trans ((Mods.drew _ _).trans (hg4.mods.mono fun _ _ h => h.elim)); have H4 := H.out.new ((Mods.drewN _ w _).trans ((Mods.drew _ _).trans hg4.mods)); have hc0' := H4.c0; have hc1' := H4.c1))
    have kz := H4.f1
    have ho5 := hid (ho4.keep (Mods.setCell (F := fun k => k = r) (a := ⟨r, 1, none⟩) rfl (.int .i64 0)) (fun k hk e => by
      have := H.out.lt
      rcases hg4.fresh k hk with h | h
      · exact h
      · simp [drewN_heap] at h; omega))
    have hf5 : Hid (∀ k, blk ao4 k → w.heap.size ≤ k) := fun k hk => by
      rcases hg4.fresh k hk with h | h
      · exact h.elim
      · simpa [drewN_heap] using h
    have hset := hid (H4.set1 0 (Nat.zero_le _))
    have hm5 := hid (hm4.trans (Mods.setCell (F := fun k => k = r) (a := ⟨r, 1, none⟩) rfl (.int .i64 0)))
    clear H4 hm4 hg4 ho4
    go_wp2
    go_ret
    exact ⟨ao4, cap4, rfl, ho5.out, hf5.out, hset.out, hm5.out⟩
  · have hcap0 : (cap = 0) = False := by simp; omega
    have hcap1 : (0 = cap) = False := by simp; omega
    go_enter Try.func97, Try.ntmps97
    go_wp2_with fail
    refine HL.out.mono ?_
    rintro e w0 ⟨rfl, hq⟩
    obtain ⟨q, rfl⟩ := hq
    go_wp2
    go_quiet (fail)
    go_wp2
    go_rounds 1
    go_wp2_with fail
    go_region_held3 (fun w' => w'.cell? ⟨r, 0, none⟩ = some (.slice (some a) 0 cap) ∧ w'.cell? ⟨r, 1, none⟩ = some (.int .i64 0))
      (first | exact ⟨hc0, hc1⟩ | exact ⟨hc0', hc1'⟩)
      (first | (go_at_call 50; refine (HC.out _ _ _ (by simp)).mono ?_; rintro e w4 ⟨ao4, cap4, rfl, ho4, hg4⟩; have hm4 := (Mods.drewN (fun k => k = r) w _).trans ((Mods.drew _ _).trans (hg4.mods.mono fun _ _ h => h.elim)); have H4 := H.out.new ((Mods.drewN _ w _).trans ((Mods.drew _ _).trans hg4.mods)); have hc0' := H4.c0; have hc1' := H4.c1))
    have kz := H4.f1
    have ho5 := hid (ho4.keep (Mods.setCell (F := fun k => k = r) (a := ⟨r, 1, none⟩) rfl (.int .i64 0)) (fun k hk e => by
      have := H.out.lt
      rcases hg4.fresh k hk with h | h
      · exact h
      · simp [drewN_heap] at h; omega))
    have hf5 : Hid (∀ k, blk ao4 k → w.heap.size ≤ k) := fun k hk => by
      rcases hg4.fresh k hk with h | h
      · exact h.elim
      · simpa [drewN_heap] using h
    have hset := hid (H4.set1 0 (Nat.zero_le _))
    have hm5 := hid (hm4.trans (Mods.setCell (F := fun k => k = r) (a := ⟨r, 1, none⟩) rfl (.int .i64 0)))
    clear H4 hm4 hg4 ho4
    go_wp2
    go_ret
    exact ⟨ao4, cap4, rfl, ho5.out, hf5.out, hset.out, hm5.out⟩

end Go.Proofs.Ytanknjpcgceccaa
