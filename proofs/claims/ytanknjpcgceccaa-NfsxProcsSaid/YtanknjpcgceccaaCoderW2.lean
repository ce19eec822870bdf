/- nfsx's coder, where it writes: u32, u64. (Printed by wip/tools/gen_coderw.py.) -/
import Derived.Test.YtanknjpcgceccaaCoderW
namespace Go.Proofs.Ytanknjpcgceccaa
open Go.RowKit

set_option maxRecDepth 100000 in
set_option maxHeartbeats 2000000 in
theorem u32w_any (c p : Nat) (ao : Option Addr) (cap : Nat) (bad : Bool) (bs : List UInt8) (lo : Option Addr) (lc : Nat) (vs : List (Addr × Int)) (w : World) (h : CW w c p ao cap bad bs) (hlen : bs.length + 4 * vs.length ≤ 1000000)
    (hvs : ∀ x ∈ vs, 0 ≤ x.2 ∧ x.2 < 4294967296) (hl : Sl w 1 lo vs.length lc (vs.map fun x => .pointer (some x.1))) (hd : ∀ k, rb lo vs.length k → ¬ FC c p ao k) (hx : ∀ x ∈ vs, w.cell? x.1 = some (.int .u32 x.2) ∧ ¬ FC c p ao x.1.block) :
    Calls Try.prog 55 #[.pointer (some ⟨c, 0, none⟩), .slice lo vs.length lc] w (CPost w c p ao (.tuple #[]) bad (bs ++ bes 4 (vs.map (·.2)))) := by
  have H := hid h; have HV := hid hvs; have HL := hid hl; have HD := hid hd; have HXX := hid hx; clear h hvs hl hd hx
  go_enter Try.func55, Try.ntmps55
  go_wp2
  go_loopw [8] (fun i wr => ∃ (k : Nat) (ao' : Option Addr) (cap' : Nat), k ≤ vs.length ∧ i = .int .i64 (k : Int) ∧ CW wr c p ao' cap' bad (bs ++ bes 4 ((vs.take k).map (·.2))) ∧ CGrew w c p ao wr ao') (fun i _ => vs.length - (intOf i).toNat)
  case atStart => exact ⟨0, ao, cap, by omega, by go_num, by simpa [bes] using H.out, CGrew.refl _ _ _ _⟩
  case round =>
    obtain ⟨k, ao', cap', hk, rfl, hw, hg⟩ := hrel
    have hw' := hid hw; have hg' := hid hg; clear hw hg
    by_cases hlt : k < vs.length
    · obtain ⟨x, hxe⟩ : ∃ x, x = vs[k] := ⟨_, rfl⟩
      have hmem : x ∈ vs := by rw [hxe]; simp
      have HX := hid (HXX.out x hmem)
      have HV1 := hid (HV.out x hmem)
      have HC : Hid (∃ b o, lo = some ⟨b, o, none⟩ ∧ wr.cell? ⟨b, o + k, none⟩ = some (.pointer (some x.1))) := by
        obtain ⟨b, o, h1, h2⟩ := (HL.out.keep hg'.out.mods HD.out).at (j := k) (by simpa using hlt)
        exact ⟨b, o, h1, by rw [h2, hxe]; simp⟩
      have HS : Hid (bs ++ bes 4 ((vs.take (k + 1)).map (·.2)) = bs ++ bes 4 ((vs.take k).map (·.2)) ++ bes 4 [x.2]) := by
        rw [List.take_succ_eq_append_getElem hlt, ← hxe, List.map_append]; simp [bes, Hid]
      have htl : ((vs.take k).map (·.2)).length = k := by simp; omega
      obtain ⟨b, o, rfl, hcell0⟩ := HC.out
      obtain ⟨a, v⟩ := x
      have hcell : wr.cell? a = some (.int .u32 v) := hg'.out.mods.cell HX.out.1 HX.out.2
      have hc1 := hw'.out.c1
      clear HL HV HC HD HXX hxe hmem
      go_wp2_with fail
      refine wp_region_held_drew (S := fun w' => w'.cell? ⟨c, 1, none⟩ = some (.pointer (some ⟨p, 0, none⟩)) ∧ w'.cell? a = some (.int .u32 v)) (by kernel_rfl) ?hS (fun hHeld => ?_)
      case hS => exact ⟨by simpa using hc1, by simpa using hcell⟩
      refine wpAnyH_take (i := 0) (v := ?_) rfl (by kernel_rfl) (by kernel_rfl) (by kernel_rfl) (fun _ _ _ h => h) (Or.inl ⟨by rfl, ?hy⟩) hHeld ?_
      case hy => intro w hSw; (try dsimp only at hSw); go_simp; try with_reducible rfl
      simp only [Act.put]
      refine wpAnyH_take (i := 1) (v := ?_) rfl (by kernel_rfl) (by kernel_rfl) (by kernel_rfl) (fun _ _ _ h => h) (Or.inl ⟨by rfl, ?hy⟩) hHeld ?_
      case hy => intro w hSw; (try dsimp only at hSw); go_simp; try with_reducible rfl
      simp only [Act.put]
      refine wpAnyH_take (i := 2) (v := ?_) rfl (by kernel_rfl) (by kernel_rfl) (by kernel_rfl) (fun _ _ _ h => h) (Or.inl ⟨by rfl, ?hy⟩) hHeld ?_
      case hy => intro w hSw; (try dsimp only at hSw); go_simp; try with_reducible rfl
      simp only [Act.put]
      refine wpAnyH_take (i := 3) (v := ?_) rfl (by kernel_rfl) (by kernel_rfl) (by kernel_rfl) (fun _ _ _ h => h) (Or.inl ⟨by rfl, ?hy⟩) hHeld ?_
      case hy => intro w hSw; (try dsimp only at hSw); go_simp; try with_reducible rfl
      simp only [Act.put]
      refine wpAnyH_take (i := 4) (v := ?_) rfl (by kernel_rfl) (by kernel_rfl) (by kernel_rfl) (fun _ _ _ h => h) (Or.inl ⟨by rfl, ?hy⟩) hHeld ?_
      case hy => intro w hSw; (try dsimp only at hSw); go_simp; try with_reducible rfl
      simp only [Act.put]
      refine wpAnyH_take (i := 5) (v := ?_) rfl (by kernel_rfl) (by kernel_rfl) (by kernel_rfl) (fun _ _ _ h => h) (Or.inl ⟨by rfl, ?hy⟩) hHeld ?_
      case hy => intro w hSw; (try dsimp only at hSw); go_simp; try with_reducible rfl
      simp only [Act.put]
      refine wpAnyH_take (i := 6) (v := ?_) rfl (by kernel_rfl) (by kernel_rfl) (by kernel_rfl) (fun _ _ _ h => h) (Or.inl ⟨by rfl, ?hy⟩) hHeld ?_
      case hy => intro w hSw; (try dsimp only at hSw); go_simp; try with_reducible rfl
      simp only [Act.put]
      refine wpAnyH_ready (rs := [7]) (by kernel_rfl) (by simp) ?_
      refine AllReadyH.cons rfl (fun K hK => ?_) AllReadyH.nil
      go_simp
      refine hK.out _ _ ?hS (fun hHeld2 => ?_)
      case hS => exact ⟨((Mods.alloc (fun _ => False) wr _).trans (Mods.drew _ _)).cell hc1 (fun h => h), ((Mods.alloc (fun _ => False) wr _).trans (Mods.drew _ _)).cell hcell (fun h => h)⟩
      clear hK K hHeld
      have hHeld := hHeld2
      clear hHeld2
      refine wpAnyH_ready (rs := [8]) (by kernel_rfl) (by simp) ?_
      refine AllReadyH.cons rfl (fun K hK => ?_) AllReadyH.nil
      go_simp
      refine (U32_any p ao' cap' (bs ++ bes 4 ((vs.take k).map (·.2))) _ _ [v] _ (hw'.out.wr.new2 ((Mods.drew (fun _ => False) wr).trans (Mods.alloc (fun _ => False) _ _))) (by simp [bes_length]; omega) (by simpa using HV1.out) (Sl.one _ _ _) (fun q hq => ?hap)).mono ?_
      case hap =>
        have hq' : wr.heap.size = q := by simpa [blk] using hq.2
        subst hq'
        exact ⟨by have := hw'.out.wr.lt; omega, fun h' => by have := hw'.out.wr.own.lt _ h'; omega⟩
      rintro e w2 ⟨ao2, cap2, rfl, hw2, hg2⟩
      have hg02 : WGrew wr p ao' w2 ao2 := ⟨((Mods.drew _ wr).trans (Mods.alloc _ _ _)).trans hg2.mods, fun k hk => by
        rcases hg2.fresh k hk with h | h
        · exact .inl h
        · simp at h; exact .inr (by omega)⟩
      have hcw2 := hid (hw'.out.wrote hw2 hg02)
      have hgg := hid (hg'.out.trans hg02.c)
      clear hw2 hg2 hg02
      go_simp
      refine hK.out _ _ ?hS (fun hHeld2 => ?_)
      case hS => exact ⟨hcw2.out.c1, hgg.out.mods.cell HX.out.1 HX.out.2⟩
      clear hK K hHeld
      have hHeld := hHeld2
      clear hHeld2
      refine wpAnyH_done (by kernel_rfl) ?_ _
      clear hHeld
      have hcw3 : Hid (CW w2 c p ao2 cap2 bad (bs ++ bes 4 ((vs.take (k + 1)).map (·.2)))) := by rw [HS.out]; exact hcw2.out
      clear hc1 hcell hcell0
      go_wp2
      go_roundw
      case rel => exact ⟨k + 1, ao2, cap2, by omega, by go_num, hcw3.out, hgg.out⟩
      case measure => simp [intOf]; omega
    · have hfin : Hid (CW wr c p ao' cap' bad (bs ++ bes 4 (vs.map (·.2)))) := by
        have h1 := hw'.out
        rwa [List.take_of_length_le (by omega)] at h1
      go_wp2
      go_end0
      exact ⟨ao', cap', rfl, hfin.out, hg'.out⟩

set_option maxRecDepth 100000 in
set_option maxHeartbeats 2000000 in
theorem u64w_any (c p : Nat) (ao : Option Addr) (cap : Nat) (bad : Bool) (bs : List UInt8) (lo : Option Addr) (lc : Nat) (vs : List (Addr × Int)) (w : World) (h : CW w c p ao cap bad bs) (hlen : bs.length + 8 * vs.length ≤ 1000000)
    (hvs : ∀ x ∈ vs, 0 ≤ x.2 ∧ x.2 < 18446744073709551616) (hl : Sl w 1 lo vs.length lc (vs.map fun x => .pointer (some x.1))) (hd : ∀ k, rb lo vs.length k → ¬ FC c p ao k) (hx : ∀ x ∈ vs, w.cell? x.1 = some (.int .u64 x.2) ∧ ¬ FC c p ao x.1.block) :
    Calls Try.prog 56 #[.pointer (some ⟨c, 0, none⟩), .slice lo vs.length lc] w (CPost w c p ao (.tuple #[]) bad (bs ++ bes 8 (vs.map (·.2)))) := by
  have H := hid h; have HV := hid hvs; have HL := hid hl; have HD := hid hd; have HXX := hid hx; clear h hvs hl hd hx
  go_enter Try.func56, Try.ntmps56
  go_wp2
  go_loopw [8] (fun i wr => ∃ (k : Nat) (ao' : Option Addr) (cap' : Nat), k ≤ vs.length ∧ i = .int .i64 (k : Int) ∧ CW wr c p ao' cap' bad (bs ++ bes 8 ((vs.take k).map (·.2))) ∧ CGrew w c p ao wr ao') (fun i _ => vs.length - (intOf i).toNat)
  case atStart => exact ⟨0, ao, cap, by omega, by go_num, by simpa [bes] using H.out, CGrew.refl _ _ _ _⟩
  case round =>
    obtain ⟨k, ao', cap', hk, rfl, hw, hg⟩ := hrel
    have hw' := hid hw; have hg' := hid hg; clear hw hg
    by_cases hlt : k < vs.length
    · obtain ⟨x, hxe⟩ : ∃ x, x = vs[k] := ⟨_, rfl⟩
      have hmem : x ∈ vs := by rw [hxe]; simp
      have HX := hid (HXX.out x hmem)
      have HV1 := hid (HV.out x hmem)
      have HC : Hid (∃ b o, lo = some ⟨b, o, none⟩ ∧ wr.cell? ⟨b, o + k, none⟩ = some (.pointer (some x.1))) := by
        obtain ⟨b, o, h1, h2⟩ := (HL.out.keep hg'.out.mods HD.out).at (j := k) (by simpa using hlt)
        exact ⟨b, o, h1, by rw [h2, hxe]; simp⟩
      have HS : Hid (bs ++ bes 8 ((vs.take (k + 1)).map (·.2)) = bs ++ bes 8 ((vs.take k).map (·.2)) ++ bes 8 [x.2]) := by
        rw [List.take_succ_eq_append_getElem hlt, ← hxe, List.map_append]; simp [bes, Hid]
      have htl : ((vs.take k).map (·.2)).length = k := by simp; omega
      obtain ⟨b, o, rfl, hcell0⟩ := HC.out
      obtain ⟨a, v⟩ := x
      have hcell : wr.cell? a = some (.int .u64 v) := hg'.out.mods.cell HX.out.1 HX.out.2
      have hc1 := hw'.out.c1
      clear HL HV HC HD HXX hxe hmem
      go_wp2_with fail
      refine wp_region_held_drew (S := fun w' => w'.cell? ⟨c, 1, none⟩ = some (.pointer (some ⟨p, 0, none⟩)) ∧ w'.cell? a = some (.int .u64 v)) (by kernel_rfl) ?hS (fun hHeld => ?_)
      case hS => exact ⟨by simpa using hc1, by simpa using hcell⟩
      refine wpAnyH_take (i := 0) (v := ?_) rfl (by kernel_rfl) (by kernel_rfl) (by kernel_rfl) (fun _ _ _ h => h) (Or.inl ⟨by rfl, ?hy⟩) hHeld ?_
      case hy => intro w hSw; (try dsimp only at hSw); go_simp; try with_reducible rfl
      simp only [Act.put]
      refine wpAnyH_take (i := 1) (v := ?_) rfl (by kernel_rfl) (by kernel_rfl) (by kernel_rfl) (fun _ _ _ h => h) (Or.inl ⟨by rfl, ?hy⟩) hHeld ?_
      case hy => intro w hSw; (try dsimp only at hSw); go_simp; try with_reducible rfl
      simp only [Act.put]
      refine wpAnyH_take (i := 2) (v := ?_) rfl (by kernel_rfl) (by kernel_rfl) (by kernel_rfl) (fun _ _ _ h => h) (Or.inl ⟨by rfl, ?hy⟩) hHeld ?_
      case hy => intro w hSw; (try dsimp only at hSw); go_simp; try with_reducible rfl
      simp only [Act.put]
      refine wpAnyH_take (i := 3) (v := ?_) rfl (by kernel_rfl) (by kernel_rfl) (by kernel_rfl) (fun _ _ _ h => h) (Or.inl ⟨by rfl, ?hy⟩) hHeld ?_
      case hy => intro w hSw; (try dsimp only at hSw); go_simp; try with_reducible rfl
      simp only [Act.put]
      refine wpAnyH_take (i := 4) (v := ?_) rfl (by kernel_rfl) (by kernel_rfl) (by kernel_rfl) (fun _ _ _ h => h) (Or.inl ⟨by rfl, ?hy⟩) hHeld ?_
      case hy => intro w hSw; (try dsimp only at hSw); go_simp; try with_reducible rfl
      simp only [Act.put]
      refine wpAnyH_take (i := 5) (v := ?_) rfl (by kernel_rfl) (by kernel_rfl) (by kernel_rfl) (fun _ _ _ h => h) (Or.inl ⟨by rfl, ?hy⟩) hHeld ?_
      case hy => intro w hSw; (try dsimp only at hSw); go_simp; try with_reducible rfl
      simp only [Act.put]
      refine wpAnyH_take (i := 6) (v := ?_) rfl (by kernel_rfl) (by kernel_rfl) (by kernel_rfl) (fun _ _ _ h => h) (Or.inl ⟨by rfl, ?hy⟩) hHeld ?_
      case hy => intro w hSw; (try dsimp only at hSw); go_simp; try with_reducible rfl
      simp only [Act.put]
      refine wpAnyH_ready (rs := [7]) (by kernel_rfl) (by simp) ?_
      refine AllReadyH.cons rfl (fun K hK => ?_) AllReadyH.nil
      go_simp
      refine hK.out _ _ ?hS (fun hHeld2 => ?_)
      case hS => exact ⟨((Mods.alloc (fun _ => False) wr _).trans (Mods.drew _ _)).cell hc1 (fun h => h), ((Mods.alloc (fun _ => False) wr _).trans (Mods.drew _ _)).cell hcell (fun h => h)⟩
      clear hK K hHeld
      have hHeld := hHeld2
      clear hHeld2
      refine wpAnyH_ready (rs := [8]) (by kernel_rfl) (by simp) ?_
      refine AllReadyH.cons rfl (fun K hK => ?_) AllReadyH.nil
      go_simp
      refine (U64_any p ao' cap' (bs ++ bes 8 ((vs.take k).map (·.2))) _ _ [v] _ (hw'.out.wr.new2 ((Mods.drew (fun _ => False) wr).trans (Mods.alloc (fun _ => False) _ _))) (by simp [bes_length]; omega) (by simpa using HV1.out) (Sl.one _ _ _) (by simp)).mono ?_
      rintro e w2 ⟨ao2, cap2, rfl, hw2, hg2⟩
      have hg02 : WGrew wr p ao' w2 ao2 := ⟨((Mods.drew _ wr).trans (Mods.alloc _ _ _)).trans hg2.mods, fun k hk => by
        rcases hg2.fresh k hk with h | h
        · exact .inl h
        · simp at h; exact .inr (by omega)⟩
      have hcw2 := hid (hw'.out.wrote hw2 hg02)
      have hgg := hid (hg'.out.trans hg02.c)
      clear hw2 hg2 hg02
      go_simp
      refine hK.out _ _ ?hS (fun hHeld2 => ?_)
      case hS => exact ⟨hcw2.out.c1, hgg.out.mods.cell HX.out.1 HX.out.2⟩
      clear hK K hHeld
      have hHeld := hHeld2
      clear hHeld2
      refine wpAnyH_done (by kernel_rfl) ?_ _
      clear hHeld
      have hcw3 : Hid (CW w2 c p ao2 cap2 bad (bs ++ bes 8 ((vs.take (k + 1)).map (·.2)))) := by rw [HS.out]; exact hcw2.out
      clear hc1 hcell hcell0
      go_wp2
      go_roundw
      case rel => exact ⟨k + 1, ao2, cap2, by omega, by go_num, hcw3.out, hgg.out⟩
      case measure => simp [intOf]; omega
    · have hfin : Hid (CW wr c p ao' cap' bad (bs ++ bes 8 (vs.map (·.2)))) := by
        have h1 := hw'.out
        rwa [List.take_of_length_le (by omega)] at h1
      go_wp2
      go_end0
      exact ⟨ao', cap', rfl, hfin.out, hg'.out⟩

end Go.Proofs.Ytanknjpcgceccaa
