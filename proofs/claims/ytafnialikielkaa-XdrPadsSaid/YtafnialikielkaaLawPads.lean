/- XdrPads: the law's walk. -/
import Derived.Test.YtafnialikielkaaPads
import Derived.Test.YtafnialikielkaaSeq
import Derived.IntWalk
import Derived.Deep.RegionHeld3
namespace Go.Proofs.Ytafnialikielkaa
open Go.RowKit

theorem SlB.setAt {w : World} {g cap : Nat} {bs : List UInt8} (h : SlB w (some ⟨g, 0, none⟩) cap bs) (j : Nat) (hj : j < bs.length) (x : UInt8) : SlB (w.setCell ⟨g, j, none⟩ (B x)) (some ⟨g, 0, none⟩) cap (bs.set j x) := by
  have h2 := h.2.1
  refine ⟨by simp, by simpa using h2, by simp, fun i u hu => ⟨g, 0, rfl, ?_⟩⟩
  rw [List.map_set] at hu
  rw [Nat.zero_add]
  by_cases hij : j = i
  · subst hij
    obtain ⟨b, o, h3, h4⟩ := h.at hj
    cases h3
    rw [Nat.zero_add] at h4
    rw [World.cell?_setCell_same w ⟨g, j, none⟩ _ h4]
    rw [List.getElem?_set, if_pos rfl, if_pos (by simpa using hj)] at hu
    exact hu
  · rw [World.cell?_setCell_other w _ _ _ (by intro e; cases e; exact hij rfl)]
    rw [List.getElem?_set, if_neg hij] at hu
    obtain ⟨b, o, h3, h4⟩ := h.2.2.2 i u hu
    cases h3
    rwa [Nat.zero_add] at h4
theorem tmod_within {c : Int} {n : Nat} (hn : n ≠ 0) : -(n : Int) < Int.tmod c n ∧ Int.tmod c n < n := by
  have h1 := Int.tmod_lt_of_pos c (b := (n : Int)) (by omega)
  have h2 := Int.tmod_lt_of_pos (-c) (b := (n : Int)) (by omega)
  rw [Int.neg_tmod] at h2
  omega
theorem OwnB.cellAt {w : World} {g cap : Nat} {bs : List UInt8} (h : OwnB w (some ⟨g, 0, none⟩) cap bs) (j : Nat) (hj : j < bs.length) : (∃ v, w.cell? ⟨g, j, none⟩ = some v) ∧ w.frozen? ⟨g, j, none⟩ = false := by
  constructor
  · obtain ⟨b, o, h3, h4⟩ := h.sl.at hj
    cases h3
    rw [Nat.zero_add] at h4
    exact ⟨_, h4⟩
  · rcases Own.cases h with ⟨h, _⟩ | ⟨g', cur, h, ho, _⟩
    · cases h
    · cases h
      simp [World.frozen?, ho]

set_option maxRecDepth 100000 in
set_option maxHeartbeats 8000000 in
theorem pads_any (w : World) (bo : Option Addr) (bcap : Nat) (bs : List UInt8) (hb : SlB w bo bcap bs) (hbo : ∀ k, rb bo bs.length k → k < w.heap.size) (c y : Int) (hc1 : -9223372036854775808 ≤ c) (hc2 : c ≤ 9223372036854775807) (hy : 0 ≤ y ∧ y < 256)
    (mo : Option Addr) (mcap : Nat) (ms : List UInt8) (hm : SlB w mo mcap ms) (hmo : ∀ k, rb mo ms.length k → k < w.heap.size) :
    Calls Try.prog 5 #[.slice bo bs.length bcap, .int .i64 c, .int .u8 y, .slice mo ms.length mcap] w fun e w' => e = .returned (.bool true) ∧ Below w.heap.size w w' := by
  have HB := hid hb; have HBO := hid hbo; have HM := hid hm; have HMO := hid hmo; clear hb hbo hm hmo
  by_cases hbig : 3000 < bs.length
  · go_enter Try.func5, Try.ntmps5
    go_wp2_with (go_at_call 8; refine (known_any _).mono ?_; rintro e w1 ⟨rfl, hm1⟩)
    go_ret
    exact ⟨rfl, (hm1.mono (G := fun k => w.heap.size ≤ k) fun _ _ h => h.elim).below (fun k hk h => by omega) (Nat.le_refl _)⟩
  by_cases hbigm : 3000 < ms.length
  · go_enter Try.func5, Try.ntmps5
    go_wp2_with (go_at_call 8; refine (known_any _).mono ?_; rintro e w1 ⟨rfl, hm1⟩)
    go_ret
    exact ⟨rfl, (hm1.mono (G := fun k => w.heap.size ≤ k) fun _ _ h => h.elim).below (fun k hk h => by omega) (Nat.le_refl _)⟩
  have hpl : pad bs.length ≤ 3 := by unfold pad; omega
  have hpad : ((4 : Int) - (bs.length : Int) % 4) % 4 = ((pad bs.length : Nat) : Int) := by unfold pad; omega
  have HXS := hid (row_size bs)
  have HMID := hid (row_mid bs)
  have HBACK := hid (rbytes_row bs ms (by omega))
  have HLONG := hid (rbytes_long bs (by omega))
  have HBAD := hid (rbytes_bad bs (by omega))
  go_enter Try.func5, Try.ntmps5
  go_wp2_with (go_at_call 8; refine (known_any _).mono ?_; rintro e w1 ⟨rfl, hm1⟩)
  refine (NewWriter_any _).mono ?_
  rintro e w2 ⟨p, rfl, hp, hw2, hm2⟩
  have hm2' := hid (hm1.trans hm2)
  have hw2' := hid hw2
  have hpl2 : w.heap.size ≤ p := Nat.le_trans hm1.size hp
  clear hm1 hm2 hw2 hp
  go_wp2_with fail
  refine (Bytes_any p none 0 [] _ _ [(bo, bcap, bs)] _ (hw2'.out.alloc _) 3000 (by simp; omega) (by simp) (Sl.one' _ _ _ (by simp)) (apart_at hw2'.out (by simp)) (by
    intro s hs
    simp only [List.mem_singleton] at hs
    subst hs
    exact ⟨(HB.out.keep hm2'.out fun _ _ h => h).alloc _, fun k hk => ⟨by have := HBO.out k hk; have := hm2'.out.size; simp; omega, fun h => by have := HBO.out k hk; omega, fun h => h⟩⟩)).mono ?_
  rintro e w3 ⟨ao3, cap3, rfl, hw3, hg3⟩
  obtain ⟨xs, hxs⟩ : ∃ x, x = row bs := ⟨_, rfl⟩
  have hw3' : Hid (WR w3 p ao3 cap3 xs) := hid (by rw [hxs]; simpa using hw3)
  have hm3 : Hid (Mods (fun k => w.heap.size ≤ k) w w3) := (((hm2'.out.mono fun _ _ h => h.elim).trans (Mods.alloc (fun k => w.heap.size ≤ k) _ _)).step hg3.mods fun k hk h => by
    rcases h with rfl | h
    · exact hpl2
    · exact h.elim)
  rw [← hxs] at HXS HMID HBACK HLONG HBAD
  have hlen := HXS.out
  clear hw3 hg3 hm2' hw2' hpl2 hxs
  go_wp2_with fail
  refine (Done_any p ao3 cap3 xs _ hw3'.out (by omega)).mono ?_
  rintro e w4 ⟨so, scap, rfl, hs4, hg4⟩
  obtain ⟨g, hg, hgs⟩ : ∃ g, so = some ⟨g, 0, none⟩ ∧ w.heap.size ≤ g := by
    rcases Own.cases hs4 with ⟨_, h, _⟩ | ⟨g, cur, h, _⟩
    · omega
    · refine ⟨g, h, ?_⟩
      rcases hg4.fresh g (by rw [h]; rfl) with h1 | h1
      · exact h1.elim
      · exact Nat.le_trans hm3.out.size h1
  subst hg
  have hs4' := hid hs4
  have hm4 := hid (hm3.out.trans (hg4.mods.mono fun _ _ h => h.elim))
  have hcap4 := hs4.sl.2.1
  clear hs4 hg4 hm3 hw3'
  have hmod4 : (bs.length : Int) % 4 ≤ 3 := by omega
  have hw1 : IntKind.i64.wrap (4 + (bs.length : Int)) = 4 + (bs.length : Int) := IntWalk.i64_in _ (by omega)
  have hw2 : IntKind.i64.wrap (4 + (bs.length : Int) + ((pad bs.length : Nat) : Int)) = (xs.length : Int) := by rw [hlen]; exact (IntWalk.i64_in _ (by omega)).trans (by omega)
  have hlo1 : (0 : Int) ≤ 4 + (bs.length : Int) := by omega
  have hlo2 : (4 : Int) ≤ 4 + (bs.length : Int) := by omega
  have hhi1 : 4 + (bs.length : Int) ≤ scap := by omega
  have htn : (4 + (bs.length : Int)).toNat = 4 + bs.length := by omega
  have hx4 : 4 ≤ xs.length := by omega
  have hx4b : 4 + bs.length ≤ xs.length := by omega
  have hx3010 : xs.length ≤ 3010 := by omega
  have hpx : pad bs.length ≤ xs.length - 4 := by omega
  clear hlen
  go_wp2_with fail
  rw [hpad]
  clear hpad
  obtain ⟨d, hd⟩ : ∃ d, d = pad bs.length := ⟨_, rfl⟩
  rw [← hd] at hw2 hpl hpx ⊢
  have HD := hid hd
  clear hd
  have hmid : Hid (SlB w4 (if scap = 4 then some ⟨g, 0, none⟩ else some ⟨g, 4, none⟩) (scap - 4) bs) := by
    have h1 := fun a ha => hs4'.out.sl.sub 4 bs.length (by omega) (a := a) ha
    rw [HMID.out] at h1
    by_cases h4 : scap = 4
    · have h2 := h1 ⟨g, 0, none⟩ (fun h => by omega)
      rw [if_pos h4]; exact h2
    · have h2 := h1 ⟨g, 4, none⟩ (fun h => rfl)
      rw [if_neg h4]; exact h2
  have hcvm := fun n => run_conv (hmid.out.keep (Mods.drewN (fun _ => False) w4 n) (fun _ _ h => h))
  have HB4 := hid (HB.out.below HBO.out hm4.out)
  have hcvb := fun n => run_conv (HB4.out.keep (Mods.drewN (fun _ => False) w4 n) (fun _ _ h => h))
  refine wp_region_quiet_lit (by kernel_rfl) (by kernel_rfl) ?_
  repeat (go_big_quiet_step (fail))
  refine wpQuiet_nil ?_
  rintro w5 ⟨n5, hw5⟩
  have hm45 : Mods (fun _ => False) w4 w5 := hw5 ▸ Mods.drewN _ _ _
  have hs5 := hid (hs4'.out.keep hm45 fun _ _ h => h)
  have hm5 := hid (hm4.out.trans (hm45.mono fun _ _ h => h.elim))
  clear hcvm hcvb hmid HB4 hs4' hm4 hm45 hw5 w4
  generalize (if scap = 4 then some (⟨g, 0, none⟩ : Addr) else some ⟨g, 4, none⟩) = A
  have HB5 := hid (HB.out.below HBO.out hm5.out)
  have HM5 := hid (HM.out.below HMO.out hm5.out)
  clear hw1 hw2 hlo1 hlo2 hhi1 htn
  go_wp2_with (at_builtin; refine wpList_appB _ rfl _ _ rfl _ _ _ [] rfl rfl ?c1 _ _ _ xs rfl rfl (hs5.out.sl.alloc _) ?c2 ?_)
  case c2 => simp; omega
  case c1 => exact OwnB.empty _
  intro ao6 cap6 cs6 w6 hcs6 ho6 hg6
  obtain rfl : cs6 = xs := hcs6
  have hm56 : Mods (fun _ => False) w5 w6 := (Mods.alloc _ _ _).step hg6.mods fun k hk h => by cases h; simp at hk
  have HM6 := hid (HM5.out.keep hm56 fun _ _ h => h)
  have ho6' := hid ho6
  have hf6 : Hid (∀ k, blk ao6 k → w5.heap.size ≤ k) := fun k hk => by
    rcases hg6.fresh k hk with h | h
    · cases h; exact Nat.le_refl _
    · simp at h; omega
  have hm56' := hid hm56
  clear ho6 hg6 hm56
  go_wp2_with (at_builtin; refine wpList_appB _ rfl _ _ rfl _ _ _ cs6 rfl rfl ho6'.out _ _ _ ms rfl rfl HM6.out ?c2 ?_)
  case c2 => omega
  intro ao7 cap7 cs7 w7 hcs7 ho7 hg7
  have hm57 : Mods (fun _ => False) w5 w7 := hm56'.out.step hg7.mods fun k hk h => by
    have := hf6.out k h; omega
  have hm57' := hid hm57
  have ho7' := hid ho7
  have hl7 : cs7.length ≤ 1000000000 := by
    have h : cs7 = cs6 ++ ms := hcs7
    rw [h, List.length_append]; omega
  have hcs7' : Hid (cs7 = cs6 ++ ms) := hcs7
  clear ho7 hg7 hm57 ho6' hf6 hm56' HM6
  go_wp2_with fail
  refine (NewReader_any _ _ _ _ ho7'.out.sl hl7).mono ?_
  rintro e w8 ⟨r, ro, rc, rfl, hr8, hr8l, hro, hm8⟩
  have hm58 := hid (hm57'.out.trans hm8)
  have hr8' := hid hr8
  have hr5 : Hid (w5.heap.size ≤ r) := Nat.le_trans hm57'.out.size hr8l
  clear hr8 hm8 hro hr8l hm57' ho7'
  have HBY := fun (w' : World) h => RDBytes_any bs.length r ro rc cs7 0 0 w' h
  have hb7 : rbytes bs.length cs7 0 0 = (bs, cs6.length, 0) := by rw [hcs7'.out]; exact HBACK.out
  rw [hb7] at HBY
  have HBY' := hid HBY
  have HB8 := hid (HB5.out.keep hm58.out fun _ _ h => h)
  have hl7' : Hid (cs7.length = cs6.length + ms.length) := hid (by rw [hcs7'.out, List.length_append])
  have hbr : Hid (∀ k, rb bo bs.length k → ¬ k = r) := fun k hk e => by have := HBO.out k hk; have := hm5.out.size; have := hr5.out; omega
  clear HBY hb7 hcs7' HBACK
  go_wp2_with fail
  have hcv8 := run_conv (HB8.out.keep (Mods.drew (fun _ => False) w8) fun _ _ h => h)
  refine wp_region_held_drew (S := fun w' => (convert 27 9 (.slice bo bs.length bcap)).run Try.prog w' = .ok (.string (str bs)) w') (by kernel_rfl) hcv8 (fun hHeld => ?_)
  refine wpAnyH_take (i := 0) (v := ?_) rfl (by kernel_rfl) (by kernel_rfl) (by kernel_rfl) (fun _ _ _ h => h) (Or.inl ⟨by rfl, ?hy⟩) hHeld ?_
  case hy => intro w hSw; (try dsimp only at hSw); go_simp; try with_reducible rfl
  simp only [Act.put]
  refine wpAnyH_take (i := 1) (v := ?_) rfl (by kernel_rfl) (by kernel_rfl) (by kernel_rfl) (fun _ _ _ h => h) (Or.inl ⟨by rfl, ?hy⟩) hHeld ?_
  case hy => intro w hSw; (try dsimp only at hSw); go_simp; try with_reducible rfl
  simp only [Act.put]
  refine wpAnyH_take (i := 2) (v := ?_) rfl (by kernel_rfl) (by kernel_rfl) (by kernel_rfl) (fun _ _ _ h => h) (Or.inl ⟨by rfl, ?hy⟩) hHeld ?_
  case hy => intro w hSw; (try dsimp only at hSw); go_simp; try with_reducible rfl
  simp only [Act.put]
  refine wpAnyH_take (i := 5) (v := ?_) rfl (by kernel_rfl) (by kernel_rfl) (by kernel_rfl) (fun _ _ _ h => h) (Or.inl ⟨by rfl, ?hy⟩) hHeld ?_
  case hy => intro w hSw; (try dsimp only at hSw); go_simp; try with_reducible rfl
  simp only [Act.put]
  refine wpAnyH_take (i := 6) (v := ?_) rfl (by kernel_rfl) (by kernel_rfl) (by kernel_rfl) (fun _ _ _ h => h) (Or.inl ⟨by rfl, ?hy⟩) hHeld ?_
  case hy => intro w hSw; (try dsimp only at hSw); go_simp; try with_reducible rfl
  simp only [Act.put]
  refine wpAnyH_ready (rs := [3]) (by kernel_rfl) (by simp) ?_
  refine AllReadyH.cons rfl (fun K hK => ?_) AllReadyH.nil
  go_simp
  refine (HBY'.out _ (hr8'.out.new (Mods.drew _ _))).mono ?_
  rintro e w9 ⟨xo, xc, rfl, ho9, hf9, hr9, hm9⟩
  have hr9' := hid hr9
  have hm89 := hid ((Mods.drew (fun k => k = r) w8).trans hm9)
  have HB9 := hid (HB8.out.keep hm89.out hbr.out)
  have ho9' := hid ho9
  clear ho9 hf9 hr9 hm9 hcv8
  go_simp
  refine hK.out _ _ ?hS (fun hHeld2 => ?_)
  case hS => exact run_conv HB9.out
  clear hK K hHeld hHeld2
  have hcvx := fun n => run_conv (ho9'.out.sl.keep (Mods.drewN (fun _ => False) w9 n) (fun _ _ h => h))
  refine wpAnyH_quiet_seq [4, 7, 8, 9, 10, 11, 12, 13, 14, 15, 16, 17, 18, 19, 20, 21, 22, 23, 24, 25, 26] (by kernel_rfl) rfl (by kernel_rfl) (by kernel_rfl) (fun n => run_conv (HB9.out.keep (Mods.drewN (fun _ => False) w9 n) (fun _ _ h => h))) ?_
  simp only [opsOf, List.getElem?_cons_succ, List.getElem?_cons_zero]
  have hll := hl7'.out
  have hsub : ((cs7.length : Int) - (cs6.length : Int)) = (ms.length : Int) := by omega
  have HLf := fun n => Left_any _ _ _ _ _ _ _ (hr9'.out.drewN n)
  rw [hsub] at HLf
  have HLf' := hid HLf
  clear hll hsub HLf
  repeat (go_big_quiet_step (first | (go_at_call 24; exact quiet_same (At_any _ _ _ _ _ _ _ (hr9'.out.drewN _))) | (go_at_call 25; exact quiet_quiet (HLf'.out _)) | (go_at_call 26; exact quiet_same (Err_any _ _ _ _ _ _ _ (hr9'.out.drewN _)))))
  refine wpQuiet_nil ?_
  rintro w10 ⟨n10, hw10⟩
  have hm910 : Mods (fun _ => False) w9 w10 := hw10 ▸ Mods.drewN _ _ _
  have hm510 : Hid (Mods (fun k => k = r) w5 w10) := ((hm58.out.mono fun _ _ h => h.elim).trans hm89.out).trans (hm910.mono fun _ _ h => h.elim)
  have hgr : Hid (∀ k, k < w5.heap.size → ¬ k = r) := fun k hk e => by have := hr5.out; omega
  have hs10 := hid (hs5.out.keep hm510.out fun k hk => hgr.out k (hs5.out.lt k hk))
  have hm10 := hid (hm5.out.step hm510.out fun k hk h => absurd h (hgr.out k (Nat.lt_of_lt_of_le hk hm5.out.size)))
  clear hcvx HLf' ho9' HB9 hr9' hm89 HB8 HBY' hr8' hm58 hr5 hbr hl7' hl7 hm910 hw10 hm510 hgr hs5 hm5 HB5 HM5
  by_cases h0 : 0 < bs.length
  · have hx4' : cs6.length ≤ 1000000000 := by omega
    go_wp2_with fail
    refine (NewReader_any _ _ _ _ hs10.out.sl hx4').mono ?_
    rintro e w11 ⟨r2, ro2, rc2, rfl, hr11, hr11l, hro2, hm11⟩
    have hr11' := hid hr11
    have hs11 := hid (hs10.out.keep hm11 fun _ _ h => h)
    have hm11' := hid (hm10.out.trans (hm11.mono fun _ _ h => h.elim))
    have hr2l : Hid (∀ k, k < w10.heap.size → ¬ k = r2) := fun k hk e => by omega
    have hr2w : Hid (w.heap.size ≤ r2) := Nat.le_trans hm10.out.size hr11l
    have hbg : Hid (∀ k, blk (some (⟨g, 0, none⟩ : Addr)) k → ¬ k = r2) := fun k hk => hr2l.out k (hs10.out.lt k hk)
    have HBY := fun (w' : World) h => RDBytes_any ((bs.length : Int) - 1) r2 ro2 rc2 cs6 0 0 w' h
    rw [HLONG.out h0] at HBY
    have HBY' := hid HBY
    clear HBY hr11 hr11l hro2 hm11 hr2l
    go_wp2_with fail
    refine (HBY'.out _ hr11'.out).mono ?_
    rintro e w12 ⟨xo, xc, rfl, ho12, hf12, hr12, hm12⟩
    have hr12' := hid hr12
    have hs12 := hid (hs11.out.keep hm12 hbg.out)
    have hm12' := hid (hm11'.out.step hm12 fun k _ e => e ▸ hr2w.out)
    clear HBY' ho12 hf12 hr12 hm12 hs11 hs10 hm11' hm10 hr11'
    go_wp2_with fail
    refine (Err_any _ _ _ _ _ _ _ hr12'.out).mono ?_
    rintro e w13 ⟨rfl, rfl⟩
    go_wp2_with fail
    refine (At_any _ _ _ _ _ _ _ hr12'.out).mono ?_
    rintro e w13 ⟨rfl, rfl⟩
    by_cases hd0 : d = 0
    · subst hd0
      go_wp2
      go_ret
      exact ⟨rfl, hm12'.out.below (fun k hk h => by omega) (Nat.le_refl _)⟩
    · by_cases hy0 : y = 0
      · subst hy0
        go_wp2
        go_ret
        exact ⟨rfl, hm12'.out.below (fun k hk h => by omega) (Nat.le_refl _)⟩
      · have hpos : 0 < (d : Int) := by omega
        have hnz : ¬ ((d : Int) = 0) := by omega
        have ht := tmod_within (c := c) hd0
        have hb1 : ((d : Int) == 0) = false := by simpa using hd0
        have hb2 : (y == 0) = false := by simpa using hy0
        obtain ⟨t, hteq⟩ : ∃ t, t = Int.tmod c d := ⟨_, rfl⟩
        have hteq2 : Int.tmod c d = t := hteq.symm
        rw [← hteq] at ht
        clear hteq
        by_cases hneg : t < 0
        · obtain ⟨m, hm⟩ : ∃ m : Nat, 0 - t = (m : Int) := ⟨(0 - t).toNat, by omega⟩
          have hmd : m < d := by omega
          have hwr : IntKind.i64.wrap (0 - t) = (m : Int) := by rw [hm]; exact IntWalk.i64_in _ (by omega)
          · skip
            have hj1 : (0 : Int) ≤ (cs6.length : Int) - 1 - (m : Int) := by omega
            have hj2 : (cs6.length : Int) - 1 - (m : Int) < (cs6.length : Int) := by omega
            obtain ⟨j, hjd⟩ : ∃ j, j = cs6.length - 1 - m := ⟨_, rfl⟩
            have htn : ((cs6.length : Int) - 1 - (m : Int)).toNat = j := by omega
            have hjl : j < cs6.length := by omega
            obtain ⟨⟨old, hcell⟩, hfr⟩ := hs12.out.cellAt j hjl
            have hset : Hid (SlB (w12.setCell ⟨g, j, none⟩ (.int .u8 y)) (some ⟨g, 0, none⟩) scap (cs6.set j (u8 y))) := by
              rw [B_of hy]; exact hs12.out.sl.setAt j hjl (u8 y)
            have hmset : Hid (Mods (fun k => w.heap.size ≤ k) w (w12.setCell ⟨g, j, none⟩ (.int .u8 y))) := hm12'.out.trans (Mods.setCell (F := fun k => w.heap.size ≤ k) (a := ⟨g, j, none⟩) hgs _)
            have hbadj : Hid (rbytes bs.length (cs6.set j (u8 y)) 0 0 = ([], 0, 15)) := by
              rw [hjd]; exact HBAD.out m (by rw [← HD.out]; exact hmd) (u8 y) (fun e => hy0 (by have h1 := u8_toNat y; rw [e] at h1; simp at h1; omega))
            obtain ⟨ys, hys⟩ : ∃ z, z = cs6.set j (u8 y) := ⟨_, rfl⟩
            have hyl : ys.length = cs6.length := by rw [hys, List.length_set]
            rw [← hys] at hset hbadj
            have HNR := fun (w' : World) (h : SlB w' (some ⟨g, 0, none⟩) scap ys) => NewReader_any _ scap ys w' h (by omega)
            rw [hyl] at HNR
            have HNR' := hid HNR
            have hyl' := hid hyl
            clear HNR hys hyl hjd hjl
            go_wp2_with fail
            refine (HNR'.out _ hset.out).mono ?_
            rintro e w13 ⟨r3, ro3, rc3, rfl, hr13, hr13l, hro3, hm13⟩
            have hr13' := hid hr13
            have hm13' := hid (hmset.out.trans (hm13.mono fun _ _ h => h.elim))
            have hr3w : Hid (w.heap.size ≤ r3) := Nat.le_trans hmset.out.size hr13l
            have HBY3 := fun (w' : World) h => RDBytes_any bs.length r3 ro3 rc3 ys 0 0 w' h
            rw [hbadj.out] at HBY3
            have HBY3' := hid HBY3
            have HU3 := fun (w' : World) h => RDU32_any r3 ro3 rc3 ys 0 15 w' h
            rw [rnum_err ys] at HU3
            have HU3' := hid HU3
            clear HBY3 HU3 hr13 hr13l hro3 hm13 hset hmset hcell hfr
            go_wp2_with fail
            refine (HBY3'.out _ hr13'.out).mono ?_
            rintro e w14 ⟨zo, zc, rfl, ho14, hf14, hr14, hm14⟩
            have hr14' := hid hr14
            have hm14' := hid (hm13'.out.step hm14 fun k _ e => e ▸ hr3w.out)
            clear ho14 hf14 hr14 hm14
            go_wp2_with fail
            refine (Err_any _ _ _ _ _ _ _ hr14'.out).mono ?_
            rintro e w15 ⟨rfl, rfl⟩
            go_wp2_with fail
            refine (At_any _ _ _ _ _ _ _ hr14'.out).mono ?_
            rintro e w15 ⟨rfl, rfl⟩
            go_wp2_with fail
            refine (HU3'.out _ hr14'.out).mono ?_
            rintro e w16 ⟨rfl, hr16, hm16⟩
            have hr16' := hid hr16
            have hm16' := hid (hm14'.out.step hm16 fun k _ e => e ▸ hr3w.out)
            clear hr16 hm16
            go_wp2_with fail
            refine (Err_any _ _ _ _ _ _ _ hr16'.out).mono ?_
            rintro e w17 ⟨rfl, rfl⟩
            go_wp2
            go_ret
            exact ⟨rfl, hm16'.out.below (fun k hk h => by omega) (Nat.le_refl _)⟩
        · obtain ⟨m, hm⟩ : ∃ m : Nat, t = (m : Int) := ⟨t.toNat, by omega⟩
          have hmd : m < d := by omega
          subst hm
          · skip
            have hj1 : (0 : Int) ≤ (cs6.length : Int) - 1 - (m : Int) := by omega
            have hj2 : (cs6.length : Int) - 1 - (m : Int) < (cs6.length : Int) := by omega
            obtain ⟨j, hjd⟩ : ∃ j, j = cs6.length - 1 - m := ⟨_, rfl⟩
            have htn : ((cs6.length : Int) - 1 - (m : Int)).toNat = j := by omega
            have hjl : j < cs6.length := by omega
            obtain ⟨⟨old, hcell⟩, hfr⟩ := hs12.out.cellAt j hjl
            have hset : Hid (SlB (w12.setCell ⟨g, j, none⟩ (.int .u8 y)) (some ⟨g, 0, none⟩) scap (cs6.set j (u8 y))) := by
              rw [B_of hy]; exact hs12.out.sl.setAt j hjl (u8 y)
            have hmset : Hid (Mods (fun k => w.heap.size ≤ k) w (w12.setCell ⟨g, j, none⟩ (.int .u8 y))) := hm12'.out.trans (Mods.setCell (F := fun k => w.heap.size ≤ k) (a := ⟨g, j, none⟩) hgs _)
            have hbadj : Hid (rbytes bs.length (cs6.set j (u8 y)) 0 0 = ([], 0, 15)) := by
              rw [hjd]; exact HBAD.out m (by rw [← HD.out]; exact hmd) (u8 y) (fun e => hy0 (by have h1 := u8_toNat y; rw [e] at h1; simp at h1; omega))
            obtain ⟨ys, hys⟩ : ∃ z, z = cs6.set j (u8 y) := ⟨_, rfl⟩
            have hyl : ys.length = cs6.length := by rw [hys, List.length_set]
            rw [← hys] at hset hbadj
            have HNR := fun (w' : World) (h : SlB w' (some ⟨g, 0, none⟩) scap ys) => NewReader_any _ scap ys w' h (by omega)
            rw [hyl] at HNR
            have HNR' := hid HNR
            have hyl' := hid hyl
            clear HNR hys hyl hjd hjl
            go_wp2_with fail
            refine (HNR'.out _ hset.out).mono ?_
            rintro e w13 ⟨r3, ro3, rc3, rfl, hr13, hr13l, hro3, hm13⟩
            have hr13' := hid hr13
            have hm13' := hid (hmset.out.trans (hm13.mono fun _ _ h => h.elim))
            have hr3w : Hid (w.heap.size ≤ r3) := Nat.le_trans hmset.out.size hr13l
            have HBY3 := fun (w' : World) h => RDBytes_any bs.length r3 ro3 rc3 ys 0 0 w' h
            rw [hbadj.out] at HBY3
            have HBY3' := hid HBY3
            have HU3 := fun (w' : World) h => RDU32_any r3 ro3 rc3 ys 0 15 w' h
            rw [rnum_err ys] at HU3
            have HU3' := hid HU3
            clear HBY3 HU3 hr13 hr13l hro3 hm13 hset hmset hcell hfr
            go_wp2_with fail
            refine (HBY3'.out _ hr13'.out).mono ?_
            rintro e w14 ⟨zo, zc, rfl, ho14, hf14, hr14, hm14⟩
            have hr14' := hid hr14
            have hm14' := hid (hm13'.out.step hm14 fun k _ e => e ▸ hr3w.out)
            clear ho14 hf14 hr14 hm14
            go_wp2_with fail
            refine (Err_any _ _ _ _ _ _ _ hr14'.out).mono ?_
            rintro e w15 ⟨rfl, rfl⟩
            go_wp2_with fail
            refine (At_any _ _ _ _ _ _ _ hr14'.out).mono ?_
            rintro e w15 ⟨rfl, rfl⟩
            go_wp2_with fail
            refine (HU3'.out _ hr14'.out).mono ?_
            rintro e w16 ⟨rfl, hr16, hm16⟩
            have hr16' := hid hr16
            have hm16' := hid (hm14'.out.step hm16 fun k _ e => e ▸ hr3w.out)
            clear hr16 hm16
            go_wp2_with fail
            refine (Err_any _ _ _ _ _ _ _ hr16'.out).mono ?_
            rintro e w17 ⟨rfl, rfl⟩
            go_wp2
            go_ret
            exact ⟨rfl, hm16'.out.below (fun k hk h => by omega) (Nat.le_refl _)⟩
  · have hd0 : d = 0 := by
      have h1 := HD.out
      have h2 : bs.length = 0 := by omega
      rw [h2] at h1
      exact h1
    subst hd0
    go_wp2
    go_ret
    exact ⟨rfl, hm10.out.below (fun k hk h => by omega) (Nat.le_refl _)⟩

end Go.Proofs.Ytafnialikielkaa
