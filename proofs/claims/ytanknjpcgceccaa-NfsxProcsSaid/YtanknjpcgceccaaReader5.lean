/- xdr's Reader.Fixed, where the bytes are there. -/
import Derived.Test.YtanknjpcgceccaaReader3
import Derived.Test.YtanknjpcgceccaaReader4
namespace Go.Proofs.Ytanknjpcgceccaa
open Go.RowKit

set_option maxHeartbeats 2000000 in
theorem RDFixed_bad (n : Nat) (r b o : Nat) (cap : Nat) (bs : List UInt8) (at_ : Nat) (w : World) (h : RD w r (some ⟨b, o, none⟩) cap bs at_ 0) (hne : bs ≠ []) (hcut : at_ + (n + pad n) ≤ bs.length) (hall0 : ¬ ((bs.drop (at_ + n)).take (pad n)).all (· == 0) = true) :
    Calls Try.prog 97 #[.pointer (some ⟨r, 0, none⟩), .int .i64 n] w (FPost w r (some ⟨b, o, none⟩) cap bs (rfixed n bs at_ 0).1 (rfixed n bs at_ 0).2.1 (rfixed n bs at_ 0).2.2) := by
  have HL := hid (Left_any r _ cap bs at_ 0 w h)
  have hc0 := h.c0
  have hc1 := h.c1
  have hc2 := h.c2
  have hle := h.le
  have hbig := h.big
  have hcap : bs.length ≤ cap := h.sl.2.1
  have H := hid h
  have hband : bits BinOp.and IntKind.i64 (-(n : Int)) 3 = ((pad n : Nat) : Int) := by rw [i64_and3]; unfold pad; omega
  have hpl : pad n ≤ 3 := by unfold pad; omega
  have hpz : n = 0 → pad n = 0 := by rintro rfl; rfl
  have hn0 : ¬ ((n : Int) < 0) := by omega
  have hcut' : ¬ (bs.length < at_ + (n + pad n)) := by omega
  have hsum : Hid (at_ + (n + pad n) ≤ 1000000000) := by show _ ≤ _; omega
  have hw1 : IntKind.i64.wrap ((at_ : Int) + (n : Int)) = (at_ : Int) + (n : Int) := IntWalk.i64_in _ (by omega)
  have hw1p : (0 : Int) ≤ (at_ : Int) + (n : Int) := by omega
  have hw2 : IntKind.i64.wrap ((at_ : Int) + (n : Int) + ((pad n : Nat) : Int)) = (at_ : Int) + (n : Int) + ((pad n : Nat) : Int) := IntWalk.i64_in _ (by omega)
  have HSP : Hid (∀ k, k < pad n → (w.cell? ⟨b, o + (at_ + n) + k, none⟩ = some (.int .u8 (((bs.drop (at_ + n)).getD k 0).toNat : Int)))) := fun k hk => by
    obtain ⟨b', o', h1, h2⟩ := h.sl.at (j := at_ + n + k) (by omega)
    simp only [Option.some.injEq, Addr.mk.injEq, and_true] at h1
    obtain ⟨rfl, rfl⟩ := h1
    rw [Nat.add_assoc, h2]
    have : at_ + n + k < bs.length := by omega
    simp [List.getD, List.getElem?_drop, List.getElem?_eq_getElem this]
  have HCL := hid (fun (w' : World) (a : Addr) (hw : Mods (fun _ => False) w w') (ha : n ≠ 0 → a = ⟨b, o + at_, none⟩) =>
    Clone_any (some a) (cap - at_) ((bs.drop at_).take n) w' ((H.out.new hw).sl.sub at_ n (by omega) ha) (Nat.le_trans (by rw [List.length_take, List.length_drop]; omega) hbig))
  have hlen : ((bs.drop at_).take n).length = n := by simp; omega
  have hlenH := hid hlen
  have hbne : 0 < bs.length := List.length_pos_iff.2 hne
  have hrf : Hid (rfixed n bs at_ 0 = if ((bs.drop (at_ + n)).take (pad n)).all (· == 0) then ((bs.drop at_).take n, at_ + (n + pad n), 0) else ([], at_, 15)) := by
    simp only [rfixed, if_true, if_neg hn0, Int.toNat_natCast, if_neg hcut', Hid]
  obtain ⟨out, hout⟩ : ∃ x, x = (bs.drop at_).take n := ⟨_, rfl⟩
  rw [← hout] at HCL hlenH hrf
  rw [hlenH.out] at HCL
  obtain ⟨pd, hpd⟩ : ∃ x, x = (bs.drop (at_ + n)).take (pad n) := ⟨_, rfl⟩
  have hpdl : Hid (pd.length = pad n) := by rw [hpd]; simp [Hid]; omega
  have hpdk : Hid (∀ k (hk : k < pd.length), (bs.drop (at_ + n)).getD k 0 = pd[k]) := fun k hk => by
    have hk2 : k < pad n := by rw [← hpdl.out]; exact hk
    have hk3 : at_ + n + k < bs.length := by omega
    simp [hpd, List.getD, List.getElem?_drop, List.getElem?_eq_getElem hk3]
  rw [← hpd] at hrf
  have hall : ¬ pd.all (· == 0) = true := by rw [hpd]; exact hall0
  have HRF := hrf
  clear hpd hout hlen hne h hcut' hn0 hrf hall0
  have hfin := HRF.out
  rw [if_neg hall] at hfin
  rw [hfin]
  have HALL := hid hall
  have hlt : at_ + n < cap := by
    rcases Nat.eq_zero_or_pos (pad n) with h | h
    · exfalso
      apply hall
      have h2 := hpdl.out
      rw [h] at h2
      rw [List.eq_nil_of_length_eq_zero h2]; rfl
    · omega
  clear hfin hall HRF hpz
  have hk1 : (cap = at_ + n) = False := by simp; omega
  have hk2 : (cap = at_) = False := by simp; omega
  have HF := hid (fun (w' : World) h => fail_any r (some ⟨b, o, none⟩) cap bs at_ 0 15 w' h)
  go_enter Try.func97, Try.ntmps97
  go_wp2_with fail
  refine HL.out.mono ?_
  rintro e w0 ⟨rfl, hq⟩
  obtain ⟨q, rfl⟩ := hq
  go_wp2
  go_quiet (fail)
  go_wp2
  go_loop [59] (fun i => ∃ k : Nat, k ≤ pad n ∧ i = .int .i64 (k : Int) ∧ AllZ (pd.take k)) (fun i => pad n - (intOf i).toNat)
  case atStart => exact ⟨0, by omega, by go_num, rfl⟩
  case round =>
    obtain ⟨k, hk, rfl, hz⟩ := hrel
    by_cases hlt2 : k < pad n
    · have hcell := HSP.out k hlt2
      have hk3 : k < pd.length := by rw [hpdl.out]; exact hlt2
      rw [hpdk.out k hk3] at hcell
      have hstep := all_take_succ hk3
      have hz' : (pd.take k).all (· == 0) = true := hz
      rw [hz', Bool.true_and] at hstep
      clear hz'
      obtain ⟨y, hy⟩ : ∃ y, y = pd[k] := ⟨_, rfl⟩
      rw [← hy] at hcell hstep
      have hyl := y.toNat_lt
      by_cases hy0 : y = 0
      · have hz2 : AllZ (pd.take (k + 1)) := by unfold AllZ; rw [hstep, hy0]; rfl
        have hyn : (((y.toNat : Nat) : Int) != 0) = false := by rw [hy0]; rfl
        clear hstep hy hk3 hz hy0
        go_wp2
        go_round
        case rel =>
          refine ⟨_, _, _, ⟨k + 1, by omega, ?_, hz2⟩, rfl, rfl, rfl⟩
          go_num
        case measure => simp [intOf]; omega
      · have hyn : (((y.toNat : Nat) : Int) != 0) = true := by
          simp
          intro h
          exact hy0 (UInt8.toNat_inj.1 (by simpa using h))
        clear hstep hy hk3 hz hy0
        go_wp2_with fail
        refine (HF.out _ (H.out.drewN _)).mono ?_
        rintro e w1 ⟨rfl, hr, hm⟩
        have hr2' : RD w1 r (some ⟨b, o, none⟩) cap bs at_ 15 := by simpa using hr
        have hr2 := hid hr2'
        clear hr2'
        have hm2 := hid ((Mods.drewN _ w _).trans hm)
        clear hr hm
        go_wp2
        go_ret
        exact ⟨none, 0, rfl, OwnB.nil _, fun _ h => h.elim, hr2.out, hm2.out⟩
    · exfalso
      have h1 : (pd.take k).all (· == 0) = true := hz
      rw [List.take_of_length_le (by rw [hpdl.out]; omega)] at h1
      exact HALL.out h1


/-- n bytes, whatever n is. -/
theorem RDFixed_any (n : Int) (hn1 : -9223372036854775808 ≤ n) (hn2 : n ≤ 9223372036854775807) (r : Nat) (ao : Option Addr) (cap : Nat) (bs : List UInt8) (at_ : Nat) (err : Int) (w : World) (h : RD w r ao cap bs at_ err) :
    Calls Try.prog 97 #[.pointer (some ⟨r, 0, none⟩), .int .i64 n] w (FPost w r ao cap bs (rfixed n bs at_ err).1 (rfixed n bs at_ err).2.1 (rfixed n bs at_ err).2.2) := by
  by_cases hneg : n < 0
  · exact RDFixed_neg n hneg hn1 r ao cap bs at_ err w h
  · obtain ⟨m, rfl⟩ := Int.eq_ofNat_of_zero_le (show 0 ≤ n by omega)
    by_cases hcut : bs.length < at_ + (m + pad m)
    · exact RDFixed_cut m (by omega) r ao cap bs at_ err w h hcut
    · by_cases he : err = 0
      · subst he
        by_cases hb : bs = []
        · subst hb
          have hle := h.le
          simp at hle hcut
          obtain ⟨rfl, rfl⟩ : at_ = 0 ∧ m = 0 := ⟨by omega, by omega⟩
          exact RDFixed_empty r ao cap w h
        · obtain ⟨b, o, rfl, _⟩ := h.sl.at (j := 0) (List.length_pos_iff.2 hb)
          have hcap : bs.length ≤ cap := h.sl.2.1
          by_cases hall : ((bs.drop (at_ + m)).take (pad m)).all (· == 0) = true
          · by_cases hlt : at_ + m < cap
            · exact RDFixed_lt m r b o cap bs at_ w h hb (by omega) hall hlt
            · have hp : pad m = 0 := by omega
              by_cases hm : m = 0
              · exact RDFixed_zero m r b o cap bs at_ w h hb (by omega) hall (by omega) hm hp
              · exact RDFixed_at m r b o cap bs at_ w h hb (by omega) hall (by omega) hm hp
          · exact RDFixed_bad m r b o cap bs at_ w h hb (by omega) hall
      · exact RDFixed_err m (by omega) r ao cap bs at_ err w h (by omega) he

end Go.Proofs.Ytanknjpcgceccaa
