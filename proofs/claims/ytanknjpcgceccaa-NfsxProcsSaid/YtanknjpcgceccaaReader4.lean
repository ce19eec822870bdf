/- xdr's Reader.Fixed, where the bytes are there. -/
import Derived.Test.YtanknjpcgceccaaReader2
namespace Go.Proofs.Ytanknjpcgceccaa
open Go.RowKit

set_option maxHeartbeats 2000000 in
theorem RDFixed_at (n : Nat) (r b o : Nat) (cap : Nat) (bs : List UInt8) (at_ : Nat) (w : World) (h : RD w r (some ⟨b, o, none⟩) cap bs at_ 0) (hne : bs ≠ []) (hcut : at_ + (n + pad n) ≤ bs.length) (hall0 : ((bs.drop (at_ + n)).take (pad n)).all (· == 0) = true) (hcapn : cap = at_ + n) (hn1 : n ≠ 0) (hp0 : pad n = 0) :
    Calls Try.prog 97 #[.pointer (some ⟨r, 0, none⟩), .int .i64 n] w (FPost w r (some ⟨b, o, none⟩) cap bs (rfixed n bs at_ 0).1 (rfixed n bs at_ 0).2.1 (rfixed n bs at_ 0).2.2) := by
  have HL := hid (Left_any r _ cap bs at_ 0 w h)
  have hc0 := h.c0
  have hc1 := h.c1
  have hc2 := h.c2
  have hle := h.le
  have hbig := h.big
  have hcap : bs.length ≤ cap := h.sl.2.1
  have H := hid h
  have hband : bits BinOp.and IntKind.i64 (-(n : Int)) 3 = ((pad n : Nat) : Int) := by rw [i64_and3]; unfold pad; omega
  have hpl : pad n ≤ 3 := by unfold pad; omega
  have hpz : n = 0 → pad n = 0 := by rintro rfl; rfl
  have hn0 : ¬ ((n : Int) < 0) := by omega
  have hcut' : ¬ (bs.length < at_ + (n + pad n)) := by omega
  have hsum : Hid (at_ + (n + pad n) ≤ 1000000000) := by show _ ≤ _; omega
  have hw1 : IntKind.i64.wrap ((at_ : Int) + (n : Int)) = (at_ : Int) + (n : Int) := IntWalk.i64_in _ (by omega)
  have hw1p : (0 : Int) ≤ (at_ : Int) + (n : Int) := by omega
  have hw2 : IntKind.i64.wrap ((at_ : Int) + (n : Int) + ((pad n : Nat) : Int)) = (at_ : Int) + (n : Int) + ((pad n : Nat) : Int) := IntWalk.i64_in _ (by omega)
  have HSP : Hid (∀ k, k < pad n → (w.cell? ⟨b, o + (at_ + n) + k, none⟩ = some (.int .u8 (((bs.drop (at_ + n)).getD k 0).toNat : Int)))) := fun k hk => by
    obtain ⟨b', o', h1, h2⟩ := h.sl.at (j := at_ + n + k) (by omega)
    simp only [Option.some.injEq, Addr.mk.injEq, and_true] at h1
    obtain ⟨rfl, rfl⟩ := h1
    rw [Nat.add_assoc, h2]
    have : at_ + n + k < bs.length := by omega
    simp [List.getD, List.getElem?_drop, List.getElem?_eq_getElem this]
  have HCL := hid (fun (w' : World) (a : Addr) (hw : Mods (fun _ => False) w w') (ha : n ≠ 0 → a = ⟨b, o + at_, none⟩) =>
    Clone_any (some a) (cap - at_) ((bs.drop at_).take n) w' ((H.out.new hw).sl.sub at_ n (by omega) ha) (Nat.le_trans (by rw [List.length_take, List.length_drop]; omega) hbig))
  have hlen : ((bs.drop at_).take n).length = n := by simp; omega
  have hlenH := hid hlen
  have hbne : 0 < bs.length := List.length_pos_iff.2 hne
  have hrf : Hid (rfixed n bs at_ 0 = if ((bs.drop (at_ + n)).take (pad n)).all (· == 0) then ((bs.drop at_).take n, at_ + (n + pad n), 0) else ([], at_, 15)) := by
    simp only [rfixed, if_true, if_neg hn0, Int.toNat_natCast, if_neg hcut', Hid]
  obtain ⟨out, hout⟩ : ∃ x, x = (bs.drop at_).take n := ⟨_, rfl⟩
  rw [← hout] at HCL hlenH hrf
  rw [hlenH.out] at HCL
  obtain ⟨pd, hpd⟩ : ∃ x, x = (bs.drop (at_ + n)).take (pad n) := ⟨_, rfl⟩
  have hpdl : Hid (pd.length = pad n) := by rw [hpd]; simp [Hid]; omega
  have hpdk : Hid (∀ k (hk : k < pd.length), (bs.drop (at_ + n)).getD k 0 = pd[k]) := fun k hk => by
    have hk2 : k < pad n := by rw [← hpdl.out]; exact hk
    have hk3 : at_ + n + k < bs.length := by omega
    simp [hpd, List.getD, List.getElem?_drop, List.getElem?_eq_getElem hk3]
  rw [← hpd] at hrf
  have hall : pd.all (· == 0) = true := by rw [hpd]; exact hall0
  have HRF := hrf
  clear hpd hout hlen hne h hcut' hn0 hrf hall0
  have hfin := HRF.out
  rw [if_pos hall] at hfin
  rw [hfin]
  have HALL := hid hall
  clear hfin hall HRF hpz
  have hb2 : (at_ : Int) ≤ (at_ : Int) + (n : Int) := by omega
  have hb3 : (at_ : Int) + (n : Int) ≤ (cap : Int) := by omega
  have hb4 : ((at_ : Int) + (n : Int)).toNat = at_ + n := by omega
  have hk1 : (cap = at_ + n) = True := by simp [hcapn]
  have hk3 : (at_ + n = cap) = True := by simp [hcapn]
  have hk4 : (cap = at_) = False := by simp; omega
  clear hcapn
  go_enter Try.func97, Try.ntmps97
  go_wp2_with fail
  refine HL.out.mono ?_
  rintro e w0 ⟨rfl, hq⟩
  obtain ⟨q, rfl⟩ := hq
  go_wp2
  go_quiet (fail)
  go_wp2
  go_rounds 1
  go_wp2_with fail
  go_region_held3 (fun w' => w'.cell? ⟨r, 0, none⟩ = some (.slice (some ⟨b, o, none⟩) bs.length cap) ∧ w'.cell? ⟨r, 1, none⟩ = some (.int .i64 at_))
    (first | exact ⟨hc0, hc1⟩ | exact ⟨hc0', hc1'⟩)
    (first | (go_at_call 50; refine (HCL.out _ ⟨b, o + at_, none⟩ ((Mods.drewN _ w _).trans (Mods.drew _ _)) (fun _ => rfl)).mono ?_; rintro e w4 ⟨ao4, cap4, rfl, ho4, hg4⟩; have hm4 := (Mods.drewN (fun k => k = r) w _).trans ((Mods.drew _ _).trans (hg4.mods.mono fun _ _ h => h.elim)); have H4 := H.out.new ((Mods.drewN _ w _).trans ((Mods.drew _ _).trans hg4.mods)); have hc0' := H4.c0; have hc1' := H4.c1))
  have kz := H4.f1
  have ho5 := hid (ho4.keep (Mods.setCell (F := fun k => k = r) (a := ⟨r, 1, none⟩) rfl (.int .i64 ((at_ + (n + pad n) : Nat) : Int))) (fun k hk e => by
    have := H.out.lt
    rcases hg4.fresh k hk with h | h
    · exact h
    · simp [drewN_heap] at h; omega))
  have hf5 : Hid (∀ k, blk ao4 k → w.heap.size ≤ k) := fun k hk => by
    rcases hg4.fresh k hk with h | h
    · exact h.elim
    · simpa [drewN_heap] using h
  have hset := hid (H4.set1 (at_ + (n + pad n)) (by omega))
  have hm5 := hid (hm4.trans (Mods.setCell (F := fun k => k = r) (a := ⟨r, 1, none⟩) rfl (.int .i64 ((at_ + (n + pad n) : Nat) : Int))))
  have hend : Hid (((at_ + (n + pad n) : Nat) : Int) = (at_ : Int) + (n : Int)) := by show _ = _; omega
  clear H4 hm4 hg4 ho4
  go_wp2
  go_ret
  rw [hend.out] at ho5 hset hm5
  exact ⟨ao4, cap4, rfl, ho5.out, hf5.out, hset.out, hm5.out⟩

set_option maxHeartbeats 2000000 in
theorem RDFixed_zero (n : Nat) (r b o : Nat) (cap : Nat) (bs : List UInt8) (at_ : Nat) (w : World) (h : RD w r (some ⟨b, o, none⟩) cap bs at_ 0) (hne : bs ≠ []) (hcut : at_ + (n + pad n) ≤ bs.length) (hall0 : ((bs.drop (at_ + n)).take (pad n)).all (· == 0) = true) (hcapn : cap = at_) (hn1 : n = 0) (hp0 : pad n = 0) :
    Calls Try.prog 97 #[.pointer (some ⟨r, 0, none⟩), .int .i64 n] w (FPost w r (some ⟨b, o, none⟩) cap bs (rfixed n bs at_ 0).1 (rfixed n bs at_ 0).2.1 (rfixed n bs at_ 0).2.2) := by
  have HL := hid (Left_any r _ cap bs at_ 0 w h)
  have hc0 := h.c0
  have hc1 := h.c1
  have hc2 := h.c2
  have hle := h.le
  have hbig := h.big
  have hcap : bs.length ≤ cap := h.sl.2.1
  have H := hid h
  have hband : bits BinOp.and IntKind.i64 (-(n : Int)) 3 = ((pad n : Nat) : Int) := by rw [i64_and3]; unfold pad; omega
  have hpl : pad n ≤ 3 := by unfold pad; omega
  have hpz : n = 0 → pad n = 0 := by rintro rfl; rfl
  have hn0 : ¬ ((n : Int) < 0) := by omega
  have hcut' : ¬ (bs.length < at_ + (n + pad n)) := by omega
  have hsum : Hid (at_ + (n + pad n) ≤ 1000000000) := by show _ ≤ _; omega
  have hw1 : IntKind.i64.wrap ((at_ : Int) + (n : Int)) = (at_ : Int) + (n : Int) := IntWalk.i64_in _ (by omega)
  have hw1p : (0 : Int) ≤ (at_ : Int) + (n : Int) := by omega
  have hw2 : IntKind.i64.wrap ((at_ : Int) + (n : Int) + ((pad n : Nat) : Int)) = (at_ : Int) + (n : Int) + ((pad n : Nat) : Int) := IntWalk.i64_in _ (by omega)
  have HSP : Hid (∀ k, k < pad n → (w.cell? ⟨b, o + (at_ + n) + k, none⟩ = some (.int .u8 (((bs.drop (at_ + n)).getD k 0).toNat : Int)))) := fun k hk => by
    obtain ⟨b', o', h1, h2⟩ := h.sl.at (j := at_ + n + k) (by omega)
    simp only [Option.some.injEq, Addr.mk.injEq, and_true] at h1
    obtain ⟨rfl, rfl⟩ := h1
    rw [Nat.add_assoc, h2]
    have : at_ + n + k < bs.length := by omega
    simp [List.getD, List.getElem?_drop, List.getElem?_eq_getElem this]
  have HCL := hid (fun (w' : World) (a : Addr) (hw : Mods (fun _ => False) w w') (ha : n ≠ 0 → a = ⟨b, o + at_, none⟩) =>
    Clone_any (some a) (cap - at_) ((bs.drop at_).take n) w' ((H.out.new hw).sl.sub at_ n (by omega) ha) (Nat.le_trans (by rw [List.length_take, List.length_drop]; omega) hbig))
  have hlen : ((bs.drop at_).take n).length = n := by simp; omega
  have hlenH := hid hlen
  have hbne : 0 < bs.length := List.length_pos_iff.2 hne
  have hrf : Hid (rfixed n bs at_ 0 = if ((bs.drop (at_ + n)).take (pad n)).all (· == 0) then ((bs.drop at_).take n, at_ + (n + pad n), 0) else ([], at_, 15)) := by
    simp only [rfixed, if_true, if_neg hn0, Int.toNat_natCast, if_neg hcut', Hid]
  obtain ⟨out, hout⟩ : ∃ x, x = (bs.drop at_).take n := ⟨_, rfl⟩
  rw [← hout] at HCL hlenH hrf
  rw [hlenH.out] at HCL
  obtain ⟨pd, hpd⟩ : ∃ x, x = (bs.drop (at_ + n)).take (pad n) := ⟨_, rfl⟩
  have hpdl : Hid (pd.length = pad n) := by rw [hpd]; simp [Hid]; omega
  have hpdk : Hid (∀ k (hk : k < pd.length), (bs.drop (at_ + n)).getD k 0 = pd[k]) := fun k hk => by
    have hk2 : k < pad n := by rw [← hpdl.out]; exact hk
    have hk3 : at_ + n + k < bs.length := by omega
    simp [hpd, List.getD, List.getElem?_drop, List.getElem?_eq_getElem hk3]
  rw [← hpd] at hrf
  have hall : pd.all (· == 0) = true := by rw [hpd]; exact hall0
  have HRF := hrf
  clear hpd hout hlen hne h hcut' hn0 hrf hall0
  have hfin := HRF.out
  rw [if_pos hall] at hfin
  rw [hfin]
  have HALL := hid hall
  clear hfin hall HRF hpz
  have hb2 : (at_ : Int) ≤ (at_ : Int) + (n : Int) := by omega
  have hb3 : (at_ : Int) + (n : Int) ≤ (cap : Int) := by omega
  have hb4 : ((at_ : Int) + (n : Int)).toNat = at_ + n := by omega
  have hk1 : (cap = at_ + n) = True := by simp [hcapn, hn1]
  have hk3 : (at_ + n = cap) = True := by simp [hcapn, hn1]
  have hk4 : (cap = at_) = True := by simp [hcapn]
  have HN1 := hid hn1
  clear hcapn hn1
  go_enter Try.func97, Try.ntmps97
  go_wp2_with fail
  refine HL.out.mono ?_
  rintro e w0 ⟨rfl, hq⟩
  obtain ⟨q, rfl⟩ := hq
  go_wp2
  go_quiet (fail)
  go_wp2
  go_rounds 1
  go_wp2_with fail
  go_region_held3 (fun w' => w'.cell? ⟨r, 0, none⟩ = some (.slice (some ⟨b, o, none⟩) bs.length cap) ∧ w'.cell? ⟨r, 1, none⟩ = some (.int .i64 at_))
    (first | exact ⟨hc0, hc1⟩ | exact ⟨hc0', hc1'⟩)
    (first | (go_at_call 50; refine (HCL.out _ ⟨b, o, none⟩ ((Mods.drewN _ w _).trans (Mods.drew _ _)) (fun h => absurd HN1.out h)).mono ?_; rintro e w4 ⟨ao4, cap4, rfl, ho4, hg4⟩; have hm4 := (Mods.drewN (fun k => k = r) w _).trans ((Mods.drew _ _).trans (hg4.mods.mono fun _ _ h => h.elim)); have H4 := H.out.new ((Mods.drewN _ w _).trans ((Mods.drew _ _).trans hg4.mods)); have hc0' := H4.c0; have hc1' := H4.c1))
  have kz := H4.f1
  have ho5 := hid (ho4.keep (Mods.setCell (F := fun k => k = r) (a := ⟨r, 1, none⟩) rfl (.int .i64 ((at_ + (n + pad n) : Nat) : Int))) (fun k hk e => by
    have := H.out.lt
    rcases hg4.fresh k hk with h | h
    · exact h
    · simp [drewN_heap] at h; omega))
  have hf5 : Hid (∀ k, blk ao4 k → w.heap.size ≤ k) := fun k hk => by
    rcases hg4.fresh k hk with h | h
    · exact h.elim
    · simpa [drewN_heap] using h
  have hset := hid (H4.set1 (at_ + (n + pad n)) (by omega))
  have hm5 := hid (hm4.trans (Mods.setCell (F := fun k => k = r) (a := ⟨r, 1, none⟩) rfl (.int .i64 ((at_ + (n + pad n) : Nat) : Int))))
  have hend : Hid (((at_ + (n + pad n) : Nat) : Int) = (at_ : Int) + (n : Int)) := by show _ = _; omega
  clear H4 hm4 hg4 ho4
  go_wp2
  go_ret
  rw [hend.out] at ho5 hset hm5
  exact ⟨ao4, cap4, rfl, ho5.out, hf5.out, hset.out, hm5.out⟩

end Go.Proofs.Ytanknjpcgceccaa
