/- xdr's Reader.Fixed, where the bytes are there. -/
import Derived.Test.YtanknjpcgceccaaRead
namespace Go.Proofs.Ytanknjpcgceccaa
open Go.RowKit

set_option maxHeartbeats 2000000 in
theorem RDFixed_at (n : Nat) (r b o : Nat) (cap : Nat) (bs : List UInt8) (at_ : Nat) (w : World) (h : RD w r (some ⟨b, o, none⟩) cap bs at_ 0) (hne : bs ≠ []) (hcut : at_ + (n + pad n) ≤ bs.length) (hall0 : ((bs.drop (at_ + n)).take (pad n)).all (· == 0) = true) (hcapn : cap = at_ + n) (hn1 : n ≠ 0) (hp0 : pad n = 0) :
    Calls Try.prog 97 #[.pointer (some ⟨r, 0, none⟩), .int .i64 n] w (FPost w r (some ⟨b, o, none⟩) cap bs (rfixed n bs at_ 0).1 (rfixed n bs at_ 0).2.1 (rfixed n bs at_ 0).2.2) := by
  have HL := hid (Left_any r _ cap bs at_ 0 w h)
  have hc0 := h.c0
  have hc1 := h.c1
  have hc2 := h.c2
  have hle := h.le
  have hbig := h.big
  have hcap : bs.length ≤ cap := h.sl.2.1
  have H := hid h
  have hband : bits BinOp.and IntKind.i64 (-(n : Int)) 3 = ((pad n : Nat) : Int) := by rw [i64_and3]; unfold pad; omega
  have hpl : pad n ≤ 3 := by unfold pad; omega
  have hpz : n = 0 → pad n = 0 := by rintro rfl; rfl
  have hn0 : ¬ ((n : Int) < 0) := by omega
  have hcut' : ¬ (bs.length < at_ + (n + pad n)) := by omega
  have hsum : Hid (at_ + (n + pad n) ≤ 1000000000) := by show _ ≤ _; omega
  have hw1 : IntKind.i64.wrap ((at_ : Int) + (n : Int)) = (at_ : Int) + (n : Int) := IntWalk.i64_in _ (by omega)
  have hw1p : (0 : Int) ≤ (at_ : Int) + (n : Int) := by omega
  have hw2 : IntKind.i64.wrap ((at_ : Int) + (n : Int) + ((pad n : Nat) : Int)) = (at_ : Int) + (n : Int) + ((pad n : Nat) : Int) := IntWalk.i64_in _ (by omega)
  have HSP : Hid (∀ k, k < pad n → (w.cell? ⟨b, o + (at_ + n) + k, none⟩ = some (.int .u8 (((bs.drop (at_ + n)).getD k 0).toNat : Int)))) := fun k hk => by
    obtain ⟨b', o', h1, h2⟩ := h.sl.at (j := at_ + n + k) (by omega)
    simp only [Option.some.injEq, Addr.mk.injEq, and_true] at h1
    obtain ⟨rfl, rfl⟩ := h1
    rw [Nat.add_assoc, h2]
    have : at_ + n + k < bs.length := by omega
    simp [List.getD, List.getElem?_drop, List.getElem?_eq_getElem this]
  have HCL := hid (fun (w' : World) (a : Addr) (hw : Mods (fun _ => False) w w') (ha : n ≠ 0 → a = ⟨b, o + at_, none⟩) =>
    Clone_any (some a) (cap - at_) ((bs.drop at_).take n) w' ((H.out.new hw).sl.sub at_ n (by omega) ha) (Nat.le_trans (by rw [List.length_take, List.length_drop]; omega) hbig))
  have hlen : ((bs.drop at_).take n).length = n := by simp; omega
  have hlenH := hid hlen
  have hbne : 0 < bs.length := List.length_pos_iff.2 hne
  have hrf : Hid (rfixed n bs at_ 0 = if ((bs.drop (at_ + n)).take (pad n)).all (· == 0) then ((bs.drop at_).take n, at_ + (n + pad n), 0) else ([], at_, 15)) := by
    simp only [rfixed, if_true, if_neg hn0, Int.toNat_natCast, if_neg hcut', Hid]
  obtain ⟨out, hout⟩ : ∃ x, x = (bs.drop at_).take n := ⟨_, rfl⟩
  rw [← hout] at HCL hlenH hrf
  rw [hlenH.out] at HCL
  obtain ⟨pd, hpd⟩ : ∃ x, x = (bs.drop (at_ + n)).take (pad n) := ⟨_, rfl⟩
  have hpdl : Hid (pd.length = pad n) := by rw [hpd]; simp [Hid]; omega
  have hpdk : Hid (∀ k (hk : k < pd.length), (bs.drop (at_ + n)).getD k 0 = pd[k]) := fun k hk => by
    have hk2 : k < pad n := by rw [← hpdl.out]; exact hk
    have hk3 : at_ + n + k < bs.length := by omega
    simp [hpd, List.getD, List.getElem?_drop, List.getElem?_eq_getElem hk3]
  rw [← hpd] at hrf
  have hall : pd.all (· == 0) = true := by rw [hpd]; exact hall0
  have HRF := hrf
  clear hpd hout hlen hne h hcut' hn0 hrf hall0
  have hfin := HRF.out
  rw [if_pos hall] at hfin
  rw [hfin]
  have HALL := hid hall
  clear hfin hall HRF hpz
  have hb2 : (at_ : Int) ≤ (at_ : Int) + (n : Int) := by omega
  have hb3 : (at_ : Int) + (n : Int) ≤ (cap : Int) := by omega
  have hb4 : ((at_ : Int) + (n : Int)).toNat = at_ + n := by omega
  have hk1 : (cap = at_ + n) = True := by simp [hcapn]
  have hk3 : (at_ + n = cap) = True := by simp [hcapn]
  have hk4 : (cap = at_) = False := by simp; omega
  clear hcapn
  go_enter Try.func97, Try.ntmps97
  go_wp2_with fail
  refine HL.out.mono ?_
  rintro e w0 ⟨rfl, hq⟩
  obtain ⟨q, rfl⟩ := hq
  go_wp2
  go_quiet (fail)
  go_wp2
  go_rounds 1
  go_wp2_with fail
  go_region_held3 (fun w' => w'.cell? ⟨r, 0, none⟩ = some (.slice (some ⟨b, o, none⟩) bs.length cap) ∧ w'.cell? ⟨r, 1, none⟩ = some (.int .i64 at_))
    (first | exact ⟨hc0, hc1⟩ | exact ⟨hc0', hc1'⟩)
    (first | (go_at_call 50; refine (HCL.out _ ⟨b, o + at_, none⟩ ((Mods.drewN _ w _).trans (Mods.drew _ _)) (fun _ => rfl)).mono ?_; rintro e w4 ⟨ao4, cap4, rfl, ho4, hg4⟩; have hm4 := (Mods.drewN (fun k => k = r) w _).trans ((Mods.drew _ _).trans (hg4.mods.mono fun _ _ h => h.elim)); have H4 := H.out.new ((Mods.drewN _ w _).trans ((Mods.drew _ _).trans hg4.mods)); have hc0' := H4.c0; have hc1' := H4.c1))
  have kz := H4.f1
  have ho5 := hid (ho4.keep (Mods.setCell (F := fun k => k = r) (a := ⟨r, 1, none⟩) rfl (.int .i64 ((at_ + (n + pad n) : Nat) : Int))) (fun k hk e => by
    have := H.out.lt
    rcases hg4.fresh k hk with h | h
    · exact h
    · simp [drewN_heap] at h; omega))
  have hf5 : Hid (∀ k, blk ao4 k → w.heap.size ≤ k) := fun k hk => by
    rcases hg4.fresh k hk with h | h
    · exact h.elim
    · simpa [drewN_heap] using h
  have hset := hid (H4.set1 (at_ + (n + pad n)) (by omega))
  have hm5 := hid (hm4.trans (Mods.setCell (F := fun k => k = r) (a := ⟨r, 1, none⟩) rfl (.int .i64 ((at_ + (n + pad n) : Nat) : Int))))
  have hend : Hid (((at_ + (n + pad n) : Nat) : Int) = (at_ : Int) + (n : Int)) := by show _ = _; omega
  clear H4 hm4 hg4 ho4
  go_wp2
  go_ret
  rw [hend.out] at ho5 hset hm5
  exact ⟨ao4, cap4, rfl, ho5.out, hf5.out, hset.out, hm5.out⟩

set_option maxHeartbeats 2000000 in
theorem RDFixed_zero (n : Nat) (r b o : Nat) (cap : Nat) (bs : List UInt8) (at_ : Nat) (w : World) (h : RD w r (some ⟨b, o, none⟩) cap bs at_ 0) (hne : bs ≠ []) (hcut : at_ + (n + pad n) ≤ bs.length) (hall0 : ((bs.drop (at_ + n)).take (pad n)).all (· == 0) = true) (hcapn : cap = at_) (hn1 : n = 0) (hp0 : pad n = 0) :
    Calls Try.prog 97 #[.pointer (some ⟨r, 0, none⟩), .int .i64 n] w (FPost w r (some ⟨b, o, none⟩) cap bs (rfixed n bs at_ 0).1 (rfixed n bs at_ 0).2.1 (rfixed n bs at_ 0).2.2) := by
  have HL := hid (Left_any r _ cap bs at_ 0 w h)
  have hc0 := h.c0
  have hc1 := h.c1
  have hc2 := h.c2
  have hle := h.le
  have hbig := h.big
  have hcap : bs.length ≤ cap := h.sl.2.1
  have H := hid h
  have hband : bits BinOp.and IntKind.i64 (-(n : Int)) 3 = ((pad n : Nat) : Int) := by rw [i64_and3]; unfold pad; omega
  have hpl : pad n ≤ 3 := by unfold pad; omega
  have hpz : n = 0 → pad n = 0 := by rintro rfl; rfl
  have hn0 : ¬ ((n : Int) < 0) := by omega
  have hcut' : ¬ (bs.length < at_ + (n + pad n)) := by omega
  have hsum : Hid (at_ + (n + pad n) ≤ 1000000000) := by show _ ≤ _; omega
  have hw1 : IntKind.i64.wrap ((at_ : Int) + (n : Int)) = (at_ : Int) + (n : Int) := IntWalk.i64_in _ (by omega)
  have hw1p : (0 : Int) ≤ (at_ : Int) + (n : Int) := by omega
  have hw2 : IntKind.i64.wrap ((at_ : Int) + (n : Int) + ((pad n : Nat) : Int)) = (at_ : Int) + (n : Int) + ((pad n : Nat) : Int) := IntWalk.i64_in _ (by omega)
  have HSP : Hid (∀ k, k < pad n → (w.cell? ⟨b, o + (at_ + n) + k, none⟩ = some (.int .u8 (((bs.drop (at_ + n)).getD k 0).toNat : Int)))) := fun k hk => by
    obtain ⟨b', o', h1, h2⟩ := h.sl.at (j := at_ + n + k) (by omega)
    simp only [Option.some.injEq, Addr.mk.injEq, and_true] at h1
    obtain ⟨rfl, rfl⟩ := h1
    rw [Nat.add_assoc, h2]
    have : at_ + n + k < bs.length := by omega
    simp [List.getD, List.getElem?_drop, List.getElem?_eq_getElem this]
  have HCL := hid (fun (w' : World) (a : Addr) (hw : Mods (fun _ => False) w w') (ha : n ≠ 0 → a = ⟨b, o + at_, none⟩) =>
    Clone_any (some a) (cap - at_) ((bs.drop at_).take n) w' ((H.out.new hw).sl.sub at_ n (by omega) ha) (Nat.le_trans (by rw [List.length_take, List.length_drop]; omega) hbig))
  have hlen : ((bs.drop at_).take n).length = n := by simp; omega
  have hlenH := hid hlen
  have hbne : 0 < bs.length := List.length_pos_iff.2 hne
  have hrf : Hid (rfixed n bs at_ 0 = if ((bs.drop (at_ + n)).take (pad n)).all (· == 0) then ((bs.drop at_).take n, at_ + (n + pad n), 0) else ([], at_, 15)) := by
    simp only [rfixed, if_true, if_neg hn0, Int.toNat_natCast, if_neg hcut', Hid]
  obtain ⟨out, hout⟩ : ∃ x, x = (bs.drop at_).take n := ⟨_, rfl⟩
  rw [← hout] at HCL hlenH hrf
  rw [hlenH.out] at HCL
  obtain ⟨pd, hpd⟩ : ∃ x, x = (bs.drop (at_ + n)).take (pad n) := ⟨_, rfl⟩
  have hpdl : Hid (pd.length = pad n) := by rw [hpd]; simp [Hid]; omega
  have hpdk : Hid (∀ k (hk : k < pd.length), (bs.drop (at_ + n)).getD k 0 = pd[k]) := fun k hk => by
    have hk2 : k < pad n := by rw [← hpdl.out]; exact hk
    have hk3 : at_ + n + k < bs.length := by omega
    simp [hpd, List.getD, List.getElem?_drop, List.getElem?_eq_getElem hk3]
  rw [← hpd] at hrf
  have hall : pd.all (· == 0) = true := by rw [hpd]; exact hall0
  have HRF := hrf
  clear hpd hout hlen hne h hcut' hn0 hrf hall0
  have hfin := HRF.out
  rw [if_pos hall] at hfin
  rw [hfin]
  have HALL := hid hall
  clear hfin hall HRF hpz
  have hb2 : (at_ : Int) ≤ (at_ : Int) + (n : Int) := by omega
  have hb3 : (at_ : Int) + (n : Int) ≤ (cap : Int) := by omega
  have hb4 : ((at_ : Int) + (n : Int)).toNat = at_ + n := by omega
  have hk1 : (cap = at_ + n) = True := by simp [hcapn, hn1]
  have hk3 : (at_ + n = cap) = True := by simp [hcapn, hn1]
  have hk4 : (cap = at_) = True := by simp [hcapn]
  have HN1 := hid hn1
  clear hcapn hn1
  go_enter Try.func97, Try.ntmps97
  go_wp2_with fail
  refine HL.out.mono ?_
  rintro e w0 ⟨rfl, hq⟩
  obtain ⟨q, rfl⟩ := hq
  go_wp2
  go_quiet (fail)
  go_wp2
  go_rounds 1
  go_wp2_with fail
  go_region_held3 (fun w' => w'.cell? ⟨r, 0, none⟩ = some (.slice (some ⟨b, o, none⟩) bs.length cap) ∧ w'.cell? ⟨r, 1, none⟩ = some (.int .i64 at_))
    (first | exact ⟨hc0, hc1⟩ | exact ⟨hc0', hc1'⟩)
    (first | (go_at_call 50; refine (HCL.out _ ⟨b, o, none⟩ ((Mods.drewN _ w _).trans (Mods.drew _ _)) (fun h => absurd HN1.out h)).mono ?_; rintro e w4 ⟨ao4, cap4, rfl, ho4, hg4⟩; have hm4 := (Mods.drewN (fun k => k = r) w _).trans ((Mods.drew _ _).trans (hg4.mods.mono fun _ _ h => h.elim)); have H4 := H.out.new ((Mods.drewN _ w _).trans ((Mods.drew _ _).trans hg4.mods)); have hc0' := H4.c0; have hc1' := H4.c1))
  have kz := H4.f1
  have ho5 := hid (ho4.keep (Mods.setCell (F := fun k => k = r) (a := ⟨r, 1, none⟩) rfl (.int .i64 ((at_ + (n + pad n) : Nat) : Int))) (fun k hk e => by
    have := H.out.lt
    rcases hg4.fresh k hk with h | h
    · exact h
    · simp [drewN_heap] at h; omega))
  have hf5 : Hid (∀ k, blk ao4 k → w.heap.size ≤ k) := fun k hk => by
    rcases hg4.fresh k hk with h | h
    · exact h.elim
    · simpa [drewN_heap] using h
  have hset := hid (H4.set1 (at_ + (n + pad n)) (by omega))
  have hm5 := hid (hm4.trans (Mods.setCell (F := fun k => k = r) (a := ⟨r, 1, none⟩) rfl (.int .i64 ((at_ + (n + pad n) : Nat) : Int))))
  have hend : Hid (((at_ + (n + pad n) : Nat) : Int) = (at_ : Int) + (n : Int)) := by show _ = _; omega
  clear H4 hm4 hg4 ho4
  go_wp2
  go_ret
  rw [hend.out] at ho5 hset hm5
  exact ⟨ao4, cap4, rfl, ho5.out, hf5.out, hset.out, hm5.out⟩

end Go.Proofs.Ytanknjpcgceccaa

/- xdr's Reader.Fixed, where the bytes are there. -/
namespace Go.Proofs.Ytanknjpcgceccaa
open Go.RowKit

set_option maxHeartbeats 2000000 in
theorem RDFixed_bad (n : Nat) (r b o : Nat) (cap : Nat) (bs : List UInt8) (at_ : Nat) (w : World) (h : RD w r (some ⟨b, o, none⟩) cap bs at_ 0) (hne : bs ≠ []) (hcut : at_ + (n + pad n) ≤ bs.length) (hall0 : ¬ ((bs.drop (at_ + n)).take (pad n)).all (· == 0) = true) :
    Calls Try.prog 97 #[.pointer (some ⟨r, 0, none⟩), .int .i64 n] w (FPost w r (some ⟨b, o, none⟩) cap bs (rfixed n bs at_ 0).1 (rfixed n bs at_ 0).2.1 (rfixed n bs at_ 0).2.2) := by
  have HL := hid (Left_any r _ cap bs at_ 0 w h)
  have hc0 := h.c0
  have hc1 := h.c1
  have hc2 := h.c2
  have hle := h.le
  have hbig := h.big
  have hcap : bs.length ≤ cap := h.sl.2.1
  have H := hid h
  have hband : bits BinOp.and IntKind.i64 (-(n : Int)) 3 = ((pad n : Nat) : Int) := by rw [i64_and3]; unfold pad; omega
  have hpl : pad n ≤ 3 := by unfold pad; omega
  have hpz : n = 0 → pad n = 0 := by rintro rfl; rfl
  have hn0 : ¬ ((n : Int) < 0) := by omega
  have hcut' : ¬ (bs.length < at_ + (n + pad n)) := by omega
  have hsum : Hid (at_ + (n + pad n) ≤ 1000000000) := by show _ ≤ _; omega
  have hw1 : IntKind.i64.wrap ((at_ : Int) + (n : Int)) = (at_ : Int) + (n : Int) := IntWalk.i64_in _ (by omega)
  have hw1p : (0 : Int) ≤ (at_ : Int) + (n : Int) := by omega
  have hw2 : IntKind.i64.wrap ((at_ : Int) + (n : Int) + ((pad n : Nat) : Int)) = (at_ : Int) + (n : Int) + ((pad n : Nat) : Int) := IntWalk.i64_in _ (by omega)
  have HSP : Hid (∀ k, k < pad n → (w.cell? ⟨b, o + (at_ + n) + k, none⟩ = some (.int .u8 (((bs.drop (at_ + n)).getD k 0).toNat : Int)))) := fun k hk => by
    obtain ⟨b', o', h1, h2⟩ := h.sl.at (j := at_ + n + k) (by omega)
    simp only [Option.some.injEq, Addr.mk.injEq, and_true] at h1
    obtain ⟨rfl, rfl⟩ := h1
    rw [Nat.add_assoc, h2]
    have : at_ + n + k < bs.length := by omega
    simp [List.getD, List.getElem?_drop, List.getElem?_eq_getElem this]
  have HCL := hid (fun (w' : World) (a : Addr) (hw : Mods (fun _ => False) w w') (ha : n ≠ 0 → a = ⟨b, o + at_, none⟩) =>
    Clone_any (some a) (cap - at_) ((bs.drop at_).take n) w' ((H.out.new hw).sl.sub at_ n (by omega) ha) (Nat.le_trans (by rw [List.length_take, List.length_drop]; omega) hbig))
  have hlen : ((bs.drop at_).take n).length = n := by simp; omega
  have hlenH := hid hlen
  have hbne : 0 < bs.length := List.length_pos_iff.2 hne
  have hrf : Hid (rfixed n bs at_ 0 = if ((bs.drop (at_ + n)).take (pad n)).all (· == 0) then ((bs.drop at_).take n, at_ + (n + pad n), 0) else ([], at_, 15)) := by
    simp only [rfixed, if_true, if_neg hn0, Int.toNat_natCast, if_neg hcut', Hid]
  obtain ⟨out, hout⟩ : ∃ x, x = (bs.drop at_).take n := ⟨_, rfl⟩
  rw [← hout] at HCL hlenH hrf
  rw [hlenH.out] at HCL
  obtain ⟨pd, hpd⟩ : ∃ x, x = (bs.drop (at_ + n)).take (pad n) := ⟨_, rfl⟩
  have hpdl : Hid (pd.length = pad n) := by rw [hpd]; simp [Hid]; omega
  have hpdk : Hid (∀ k (hk : k < pd.length), (bs.drop (at_ + n)).getD k 0 = pd[k]) := fun k hk => by
    have hk2 : k < pad n := by rw [← hpdl.out]; exact hk
    have hk3 : at_ + n + k < bs.length := by omega
    simp [hpd, List.getD, List.getElem?_drop, List.getElem?_eq_getElem hk3]
  rw [← hpd] at hrf
  have hall : ¬ pd.all (· == 0) = true := by rw [hpd]; exact hall0
  have HRF := hrf
  clear hpd hout hlen hne h hcut' hn0 hrf hall0
  have hfin := HRF.out
  rw [if_neg hall] at hfin
  rw [hfin]
  have HALL := hid hall
  have hlt : at_ + n < cap := by
    rcases Nat.eq_zero_or_pos (pad n) with h | h
    · exfalso
      apply hall
      have h2 := hpdl.out
      rw [h] at h2
      rw [List.eq_nil_of_length_eq_zero h2]; rfl
    · omega
  clear hfin hall HRF hpz
  have hk1 : (cap = at_ + n) = False := by simp; omega
  have hk2 : (cap = at_) = False := by simp; omega
  have HF := hid (fun (w' : World) h => fail_any r (some ⟨b, o, none⟩) cap bs at_ 0 15 w' h)
  go_enter Try.func97, Try.ntmps97
  go_wp2_with fail
  refine HL.out.mono ?_
  rintro e w0 ⟨rfl, hq⟩
  obtain ⟨q, rfl⟩ := hq
  go_wp2
  go_quiet (fail)
  go_wp2
  go_loop [59] (fun i => ∃ k : Nat, k ≤ pad n ∧ i = .int .i64 (k : Int) ∧ AllZ (pd.take k)) (fun i => pad n - (intOf i).toNat)
  case atStart => exact ⟨0, by omega, by go_num, rfl⟩
  case round =>
    obtain ⟨k, hk, rfl, hz⟩ := hrel
    by_cases hlt2 : k < pad n
    · have hcell := HSP.out k hlt2
      have hk3 : k < pd.length := by rw [hpdl.out]; exact hlt2
      rw [hpdk.out k hk3] at hcell
      have hstep := all_take_succ hk3
      have hz' : (pd.take k).all (· == 0) = true := hz
      rw [hz', Bool.true_and] at hstep
      clear hz'
      obtain ⟨y, hy⟩ : ∃ y, y = pd[k] := ⟨_, rfl⟩
      rw [← hy] at hcell hstep
      have hyl := y.toNat_lt
      by_cases hy0 : y = 0
      · have hz2 : AllZ (pd.take (k + 1)) := by unfold AllZ; rw [hstep, hy0]; rfl
        have hyn : (((y.toNat : Nat) : Int) != 0) = false := by rw [hy0]; rfl
        clear hstep hy hk3 hz hy0
        go_wp2
        go_round
        case rel =>
          refine ⟨_, _, _, ⟨k + 1, by omega, ?_, hz2⟩, rfl, rfl, rfl⟩
          go_num
        case measure => simp [intOf]; omega
      · have hyn : (((y.toNat : Nat) : Int) != 0) = true := by
          simp
          intro h
          exact hy0 (UInt8.toNat_inj.1 (by simpa using h))
        clear hstep hy hk3 hz hy0
        go_wp2_with fail
        refine (HF.out _ (H.out.drewN _)).mono ?_
        rintro e w1 ⟨rfl, hr, hm⟩
        have hr2' : RD w1 r (some ⟨b, o, none⟩) cap bs at_ 15 := by simpa using hr
        have hr2 := hid hr2'
        clear hr2'
        have hm2 := hid ((Mods.drewN _ w _).trans hm)
        clear hr hm
        go_wp2
        go_ret
        exact ⟨none, 0, rfl, OwnB.nil _, fun _ h => h.elim, hr2.out, hm2.out⟩
    · exfalso
      have h1 : (pd.take k).all (· == 0) = true := hz
      rw [List.take_of_length_le (by rw [hpdl.out]; omega)] at h1
      exact HALL.out h1


/-- n bytes, whatever n is. -/
theorem RDFixed_any (n : Int) (hn1 : -9223372036854775808 ≤ n) (hn2 : n ≤ 9223372036854775807) (r : Nat) (ao : Option Addr) (cap : Nat) (bs : List UInt8) (at_ : Nat) (err : Int) (w : World) (h : RD w r ao cap bs at_ err) :
    Calls Try.prog 97 #[.pointer (some ⟨r, 0, none⟩), .int .i64 n] w (FPost w r ao cap bs (rfixed n bs at_ err).1 (rfixed n bs at_ err).2.1 (rfixed n bs at_ err).2.2) := by
  by_cases hneg : n < 0
  · exact RDFixed_neg n hneg hn1 r ao cap bs at_ err w h
  · obtain ⟨m, rfl⟩ := Int.eq_ofNat_of_zero_le (show 0 ≤ n by omega)
    by_cases hcut : bs.length < at_ + (m + pad m)
    · exact RDFixed_cut m (by omega) r ao cap bs at_ err w h hcut
    · by_cases he : err = 0
      · subst he
        by_cases hb : bs = []
        · subst hb
          have hle := h.le
          simp at hle hcut
          obtain ⟨rfl, rfl⟩ : at_ = 0 ∧ m = 0 := ⟨by omega, by omega⟩
          exact RDFixed_empty r ao cap w h
        · obtain ⟨b, o, rfl, _⟩ := h.sl.at (j := 0) (List.length_pos_iff.2 hb)
          have hcap : bs.length ≤ cap := h.sl.2.1
          by_cases hall : ((bs.drop (at_ + m)).take (pad m)).all (· == 0) = true
          · by_cases hlt : at_ + m < cap
            · exact RDFixed_lt m r b o cap bs at_ w h hb (by omega) hall hlt
            · have hp : pad m = 0 := by omega
              by_cases hm : m = 0
              · exact RDFixed_zero m r b o cap bs at_ w h hb (by omega) hall (by omega) hm hp
              · exact RDFixed_at m r b o cap bs at_ w h hb (by omega) hall (by omega) hm hp
          · exact RDFixed_bad m r b o cap bs at_ w h hb (by omega) hall
      · exact RDFixed_err m (by omega) r ao cap bs at_ err w h (by omega) he

end Go.Proofs.Ytanknjpcgceccaa

/- xdr's Reader.Bytes. -/
namespace Go.Proofs.Ytanknjpcgceccaa
open Go.RowKit

theorem rfixed_err {n : Int} {bs : List UInt8} {at_ : Nat} {err : Int} (h : (rfixed n bs at_ err).2.2 ≠ 0) : (rfixed n bs at_ err).1 = [] := by
  unfold rfixed at *
  split
  · rename_i he
    rw [if_pos he] at h
    split
    · rfl
    · rename_i h1
      rw [if_neg h1] at h
      split
      · rfl
      · rename_i h2
        rw [if_neg h2] at h
        split
        · rename_i h3
          rw [if_pos h3] at h
          exact absurd rfl h
        · rfl
  · rfl
theorem rfixed_of_err {n : Int} {bs : List UInt8} {at_ : Nat} {err : Int} (h : err ≠ 0) : rfixed n bs at_ err = ([], at_, err) := by simp [rfixed, h]

set_option maxHeartbeats 1000000 in
theorem RDBytes_any (most : Int) (r : Nat) (ao : Option Addr) (cap : Nat) (bs : List UInt8) (at_ : Nat) (err : Int) (w : World) (h : RD w r ao cap bs at_ err) :
    Calls Try.prog 81 #[.pointer (some ⟨r, 0, none⟩), .int .i64 most] w (FPost w r ao cap bs (rbytes most bs at_ err).1 (rbytes most bs at_ err).2.1 (rbytes most bs at_ err).2.2) := by
  have hU := RDU32_any r ao cap bs at_ err w h
  have hlt := rnum4_lt bs at_ err
  have h1 := h.c1
  have hle := h.le
  have hrb : rbytes most bs at_ err = (let r := rnum 4 bs at_ err
    if r.2.2 = 0 then if most < r.1 then ([], at_, 5) else (let f := rfixed r.1 bs r.2.1 0; if f.2.2 = 0 then f else ([], at_, f.2.2)) else ([], at_, r.2.2)) := rfl
  generalize rnum 4 bs at_ err = q at hU hlt hrb
  obtain ⟨v, a', e'⟩ := q
  simp only at hU hlt hrb
  have HU := hid hU
  clear hU h
  -- what the number leads to: the state in which Fixed is called
  by_cases he : e' = 0
  · subst he
    rw [if_pos rfl] at hrb
    by_cases hm : most < v
    · rw [if_pos hm] at hrb
      rw [hrb]
      clear hrb
      go_enter Try.func81, Try.ntmps81
      go_wp2_with fail
      refine HU.out.mono ?_
      rintro e w1 ⟨rfl, hr, hm1⟩
      have k2 := hr.c2
      have k0 := hr.c0
      have hr1 := hid hr
      have hm1' := hid hm1
      clear hr hm1
      go_wp2_with fail
      refine (fail_any r ao cap bs a' 0 5 w1 hr1.out).mono ?_
      rintro e w2 ⟨rfl, hr, hm2⟩
      have hr2' : RD w2 r ao cap bs a' 5 := by simpa using hr
      have hr2 := hid hr2'
      have hm2' := hid (hm1'.out.trans hm2)
      have hF := RDFixed_any v (by omega) (by omega) r ao cap bs a' 5 w2 hr2'
      rw [rfixed_of_err (by decide)] at hF
      have HF := hid hF
      clear hr hr2' hm2 hF
      go_wp2_with fail
      refine HF.out.mono ?_
      rintro e w3 ⟨xo, xc, rfl, ho, hf, hr, hm3⟩
      have k2 := hr.c2
      have kz := hr.f1
      have k1 := hr.c1
      have hset := hid (hr.set1 at_ hle)
      have ho3 := hid (ho.keep (Mods.setCell (F := fun k => k = r) (a := ⟨r, 1, none⟩) rfl (.int .i64 at_)) (fun k hk e => by have := hf k hk; have := hr2.out.lt; omega))
      have hf3 : Hid (∀ k, blk xo k → w.heap.size ≤ k) := fun k hk => Nat.le_trans hm2'.out.size (hf k hk)
      have hm3' := hid ((hm2'.out.trans hm3).trans (Mods.setCell (F := fun k => k = r) (a := ⟨r, 1, none⟩) rfl (.int .i64 at_)))
      clear hr hm3 ho hf
      go_wp2
      go_ret
      exact ⟨xo, xc, rfl, ho3.out, hf3.out, hset.out, hm3'.out⟩
    · rw [if_neg hm] at hrb
      have hF := fun w1 hr => RDFixed_any v (by omega) (by omega) r ao cap bs a' 0 w1 hr
      have hE := @rfixed_err v bs a' 0
      generalize rfixed v bs a' 0 = f at hF hE hrb
      obtain ⟨out, a2, e2⟩ := f
      simp only at hF hE hrb
      have HF := hid hF
      clear hF
      by_cases he2 : e2 = 0
      · subst he2
        rw [if_pos rfl] at hrb
        rw [hrb]
        clear hrb hE
        go_enter Try.func81, Try.ntmps81
        go_wp2_with fail
        refine HU.out.mono ?_
        rintro e w1 ⟨rfl, hr, hm1⟩
        have k2 := hr.c2
        have k0 := hr.c0
        have hr1 := hid hr
        have hm1' := hid hm1
        clear hr hm1
        go_wp2_with fail
        refine (HF.out w1 hr1.out).mono ?_
        rintro e w3 ⟨xo, xc, rfl, ho, hf, hr, hm3⟩
        have k2 := hr.c2
        have hr3 := hid hr
        have ho3 := hid ho
        have hf3 : Hid (∀ k, blk xo k → w.heap.size ≤ k) := fun k hk => Nat.le_trans hm1'.out.size (hf k hk)
        have hm3' := hid (hm1'.out.trans hm3)
        clear hr hm3 ho hf
        go_wp2
        go_ret
        exact ⟨xo, xc, rfl, ho3.out, hf3.out, hr3.out, hm3'.out⟩
      · rw [if_neg he2] at hrb
        rw [hrb]
        obtain rfl : out = [] := hE he2
        have hne : (e2 != 0) = true := by simpa using he2
        clear hrb hE
        go_enter Try.func81, Try.ntmps81
        go_wp2_with fail
        refine HU.out.mono ?_
        rintro e w1 ⟨rfl, hr, hm1⟩
        have k2 := hr.c2
        have k0 := hr.c0
        have hr1 := hid hr
        have hm1' := hid hm1
        clear hr hm1
        go_wp2_with fail
        refine (HF.out w1 hr1.out).mono ?_
        rintro e w3 ⟨xo, xc, rfl, ho, hf, hr, hm3⟩
        have k2 := hr.c2
        have kz := hr.f1
        have k1 := hr.c1
        have hset := hid (hr.set1 at_ hle)
        have ho3 := hid (ho.keep (Mods.setCell (F := fun k => k = r) (a := ⟨r, 1, none⟩) rfl (.int .i64 at_)) (fun k hk e => by have := hf k hk; have := hr1.out.lt; omega))
        have hf3 : Hid (∀ k, blk xo k → w.heap.size ≤ k) := fun k hk => Nat.le_trans hm1'.out.size (hf k hk)
        have hm3' := hid ((hm1'.out.trans hm3).trans (Mods.setCell (F := fun k => k = r) (a := ⟨r, 1, none⟩) rfl (.int .i64 at_)))
        clear hr hm3 ho hf
        go_wp2
        go_ret
        exact ⟨xo, xc, rfl, ho3.out, hf3.out, hset.out, hm3'.out⟩
  · rw [if_neg he] at hrb
    rw [hrb]
    have hne : (e' != 0) = true := by simpa using he
    have heq : (e' == 0) = false := by simpa using he
    have hF := fun w1 hr => RDFixed_any v (by omega) (by omega) r ao cap bs a' e' w1 hr
    rw [rfixed_of_err he] at hF
    have HF := hid hF
    clear hrb hF
    go_enter Try.func81, Try.ntmps81
    go_wp2_with fail
    refine HU.out.mono ?_
    rintro e w1 ⟨rfl, hr, hm1⟩
    have k2 := hr.c2
    have k0 := hr.c0
    have hr1 := hid hr
    have hm1' := hid hm1
    clear hr hm1
    go_wp2_with fail
    refine (HF.out w1 hr1.out).mono ?_
    rintro e w3 ⟨xo, xc, rfl, ho, hf, hr, hm3⟩
    have k2 := hr.c2
    have kz := hr.f1
    have k1 := hr.c1
    have hset := hid (hr.set1 at_ hle)
    have ho3 := hid (ho.keep (Mods.setCell (F := fun k => k = r) (a := ⟨r, 1, none⟩) rfl (.int .i64 at_)) (fun k hk e => by have := hf k hk; have := hr1.out.lt; omega))
    have hf3 : Hid (∀ k, blk xo k → w.heap.size ≤ k) := fun k hk => Nat.le_trans hm1'.out.size (hf k hk)
    have hm3' := hid ((hm1'.out.trans hm3).trans (Mods.setCell (F := fun k => k = r) (a := ⟨r, 1, none⟩) rfl (.int .i64 at_)))
    clear hr hm3 ho hf
    go_wp2
    go_ret
    exact ⟨xo, xc, rfl, ho3.out, hf3.out, hset.out, hm3'.out⟩

end Go.Proofs.Ytanknjpcgceccaa
