/- The reference's Out: set. (Printed by wip/tools/gen_ro4.py.) -/
import Derived.Test.YtanknjpcgceccaaRo3
import Derived.Deep.Cut
namespace Go.Proofs.Ytanknjpcgceccaa
open Go.RowKit

/-! ### What is written, as a state -/
def oIf (b : Bool) (f : St → St) (s : St) : St := if b then f s else s
def oU32 (v : Int) (s : St) : St := (s.num 4 v).2
def oU64 (v : Int) (s : St) : St := (s.num 8 v).2
def oBool (b : Bool) (s : St) : St := (s.truth b).2
def oNumber (lo hi v : Int) (s : St) : St := (s.number lo hi v).2
def oText (most : Int) (bs : List UInt8) (s : St) : St := (s.row most bs).2
def oTime (t : TimeV) (s : St) : St := oU32 t.nsec (oU32 t.sec s)
def oHow (v : Int) (t : TimeV) (s : St) : St := if v = 2 then oTime t (oNumber 0 2 v s) else oNumber 0 2 v s
def oSet (v : SattrV) (s : St) : St :=
  oHow v.mtimeHow v.mtime (oHow v.atimeHow v.atime (oIf v.hasSize (oU64 v.size) (oBool v.hasSize (oIf v.hasGid (oU32 v.gid) (oBool v.hasGid (oIf v.hasUid (oU32 v.uid) (oBool v.hasUid (oIf v.hasMode (oNumber 0 4294967295 v.mode) (oBool v.hasMode s)))))))))
theorem size_oU32 (v : Int) (s : St) : (oU32 v s).size ≤ s.size + 4 := St.size_num _ _ _
theorem size_oU64 (v : Int) (s : St) : (oU64 v s).size ≤ s.size + 8 := St.size_num _ _ _
theorem size_oBool (v : Bool) (s : St) : (oBool v s).size ≤ s.size + 4 := St.size_truth _ _
theorem size_oNumber (lo hi v : Int) (s : St) : (oNumber lo hi v s).size ≤ s.size + 4 := St.size_number _ _ _ _
theorem size_oText (m : Int) (bs : List UInt8) (s : St) : (oText m bs s).size ≤ s.size + bs.length + 8 := St.size_row _ _ _
theorem size_oTime (t : TimeV) (s : St) : (oTime t s).size ≤ s.size + 8 := by
  have h1 := size_oU32 t.sec s
  have h2 := size_oU32 t.nsec (oU32 t.sec s)
  unfold oTime
  omega
theorem size_oHow (v : Int) (t : TimeV) (s : St) : (oHow v t s).size ≤ s.size + 12 := by
  have h1 := size_oNumber 0 2 v s
  have h2 := size_oTime t (oNumber 0 2 v s)
  unfold oHow
  split <;> omega
theorem size_oIf {b : Bool} {f : St → St} {s : St} {n : Nat} (h : (f s).size ≤ s.size + n) : (oIf b f s).size ≤ s.size + n := by
  unfold oIf
  split
  · exact h
  · omega
theorem size_oSet (v : SattrV) (s : St) : (oSet v s).size ≤ s.size + 60 := by
  unfold oSet
  refine Nat.le_trans (size_oHow _ _ _) ?_
  refine Nat.le_trans (Nat.add_le_add_right (size_oHow _ _ _) _) ?_
  refine Nat.le_trans (Nat.add_le_add_right (Nat.add_le_add_right (size_oIf (size_oU64 _ _)) _) _) ?_
  refine Nat.le_trans (Nat.add_le_add_right (Nat.add_le_add_right (Nat.add_le_add_right (size_oBool _ _) _) _) _) ?_
  refine Nat.le_trans (Nat.add_le_add_right (Nat.add_le_add_right (Nat.add_le_add_right (Nat.add_le_add_right (size_oIf (size_oU32 _ _)) _) _) _) _) ?_
  refine Nat.le_trans (Nat.add_le_add_right (Nat.add_le_add_right (Nat.add_le_add_right (Nat.add_le_add_right (Nat.add_le_add_right (size_oBool _ _) _) _) _) _) _) ?_
  refine Nat.le_trans (Nat.add_le_add_right (Nat.add_le_add_right (Nat.add_le_add_right (Nat.add_le_add_right (Nat.add_le_add_right (Nat.add_le_add_right (size_oIf (size_oU32 _ _)) _) _) _) _) _) _) ?_
  refine Nat.le_trans (Nat.add_le_add_right (Nat.add_le_add_right (Nat.add_le_add_right (Nat.add_le_add_right (Nat.add_le_add_right (Nat.add_le_add_right (Nat.add_le_add_right (size_oBool _ _) _) _) _) _) _) _) _) ?_
  refine Nat.le_trans (Nat.add_le_add_right (Nat.add_le_add_right (Nat.add_le_add_right (Nat.add_le_add_right (Nat.add_le_add_right (Nat.add_le_add_right (Nat.add_le_add_right (Nat.add_le_add_right (size_oIf (size_oNumber _ _ _ _)) _) _) _) _) _) _) _) _) ?_
  refine Nat.le_trans (Nat.add_le_add_right (Nat.add_le_add_right (Nat.add_le_add_right (Nat.add_le_add_right (Nat.add_le_add_right (Nat.add_le_add_right (Nat.add_le_add_right (Nat.add_le_add_right (Nat.add_le_add_right (size_oBool _ _) _) _) _) _) _) _) _) _) _) ?_
  omega

set_option maxRecDepth 100000 in
set_option maxHeartbeats 4000000 in
theorem set_out (c p : Nat) (F : Nat → Prop) (g : Nat) (x : X) (v : SattrV) (w : World) (h : OAt w c p F g x) (hs : x.1.size + 60 ≤ 1000000) (hg : v.good) :
    Calls Try.prog 39 #[.pointer (some ⟨c, 0, none⟩), .agg v.cells.toArray] w (OQ w c p F g (oSet v x.1, x.2)) := by
  have HG := hid hg; clear hg
  obtain ⟨A, hAe⟩ : ∃ A, A = v.cells.toArray := ⟨_, rfl⟩
  rw [← hAe]
  have hA1 : A[0]? = some (.bool v.hasMode) := by rw [hAe]; rfl
  have HA := hid hAe
  clear hAe
  obtain ⟨B, hB⟩ : ∃ B : Cells, B = fun j => v.cells[j]? := ⟨_, rfl⟩
  have HB := hid hB; clear hB
  obtain ⟨s0, hs0⟩ : ∃ s0, s0 = x.1 := ⟨_, rfl⟩
  have HN : Hid (s0.size + 60 ≤ 1000000) := by rw [hs0]; exact hs
  have K0 : Hid (s0.size ≤ s0.size + 0) := Nat.le_refl _
  have H := hid h; have HS0 := hid hs0
  clear h hs hs0
  obtain ⟨s1, e1⟩ : ∃ z, z = oBool v.hasMode s0 := ⟨_, rfl⟩
  have K1 : Hid (s1.size ≤ s0.size + 4) := by have h1 : s1.size ≤ s0.size + 4 := (by rw [e1]; exact size_oBool _ _); have h2 := K0.out; exact (by omega : s1.size ≤ s0.size + 4)
  obtain ⟨s2, e2⟩ : ∃ z, z = oIf v.hasMode (oNumber 0 4294967295 v.mode) s1 := ⟨_, rfl⟩
  have K2 : Hid (s2.size ≤ s0.size + 8) := by have h1 : s2.size ≤ s1.size + 4 := (by rw [e2]; exact size_oIf (size_oNumber _ _ _ _)); have h2 := K1.out; exact (by omega : s2.size ≤ s0.size + 8)
  obtain ⟨s3, e3⟩ : ∃ z, z = oBool v.hasUid s2 := ⟨_, rfl⟩
  have K3 : Hid (s3.size ≤ s0.size + 12) := by have h1 : s3.size ≤ s2.size + 4 := (by rw [e3]; exact size_oBool _ _); have h2 := K2.out; exact (by omega : s3.size ≤ s0.size + 12)
  obtain ⟨s4, e4⟩ : ∃ z, z = oIf v.hasUid (oU32 v.uid) s3 := ⟨_, rfl⟩
  have K4 : Hid (s4.size ≤ s0.size + 16) := by have h1 : s4.size ≤ s3.size + 4 := (by rw [e4]; exact size_oIf (size_oU32 _ _)); have h2 := K3.out; exact (by omega : s4.size ≤ s0.size + 16)
  obtain ⟨s5, e5⟩ : ∃ z, z = oBool v.hasGid s4 := ⟨_, rfl⟩
  have K5 : Hid (s5.size ≤ s0.size + 20) := by have h1 : s5.size ≤ s4.size + 4 := (by rw [e5]; exact size_oBool _ _); have h2 := K4.out; exact (by omega : s5.size ≤ s0.size + 20)
  obtain ⟨s6, e6⟩ : ∃ z, z = oIf v.hasGid (oU32 v.gid) s5 := ⟨_, rfl⟩
  have K6 : Hid (s6.size ≤ s0.size + 24) := by have h1 : s6.size ≤ s5.size + 4 := (by rw [e6]; exact size_oIf (size_oU32 _ _)); have h2 := K5.out; exact (by omega : s6.size ≤ s0.size + 24)
  obtain ⟨s7, e7⟩ : ∃ z, z = oBool v.hasSize s6 := ⟨_, rfl⟩
  have K7 : Hid (s7.size ≤ s0.size + 28) := by have h1 : s7.size ≤ s6.size + 4 := (by rw [e7]; exact size_oBool _ _); have h2 := K6.out; exact (by omega : s7.size ≤ s0.size + 28)
  obtain ⟨s8, e8⟩ : ∃ z, z = oIf v.hasSize (oU64 v.size) s7 := ⟨_, rfl⟩
  have K8 : Hid (s8.size ≤ s0.size + 36) := by have h1 : s8.size ≤ s7.size + 8 := (by rw [e8]; exact size_oIf (size_oU64 _ _)); have h2 := K7.out; exact (by omega : s8.size ≤ s0.size + 36)
  obtain ⟨s9, e9⟩ : ∃ z, z = oHow v.atimeHow v.atime s8 := ⟨_, rfl⟩
  have K9 : Hid (s9.size ≤ s0.size + 48) := by have h1 : s9.size ≤ s8.size + 12 := (by rw [e9]; exact size_oHow _ _ _); have h2 := K8.out; exact (by omega : s9.size ≤ s0.size + 48)
  obtain ⟨s10, e10⟩ : ∃ z, z = oHow v.mtimeHow v.mtime s9 := ⟨_, rfl⟩
  have K10 : Hid (s10.size ≤ s0.size + 60) := by have h1 : s10.size ≤ s9.size + 12 := (by rw [e10]; exact size_oHow _ _ _); have h2 := K9.out; exact (by omega : s10.size ≤ s0.size + 60)
  have hend : Hid (oSet v x.1 = s10) := by show _ = _; simp only [e1, e2, e3, e4, e5, e6, e7, e8, e9, e10, oSet, HS0.out]
  have E1 := hid e1; clear e1
  have E2 := hid e2; clear e2
  have E3 := hid e3; clear e3
  have E4 := hid e4; clear e4
  have E5 := hid e5; clear e5
  have E6 := hid e6; clear e6
  have E7 := hid e7; clear e7
  have E8 := hid e8; clear e8
  have E9 := hid e9; clear e9
  have E10 := hid e10; clear e10
  go_enter Try.func39, Try.ntmps39
  go_upto_region 1 with fail
  have hm0 : Mods (fun _ => False) w (w.alloc (.cells A 28)) := Mods.alloc _ _ _
  have hbl : Blk (w.alloc (.cells A 28)) w.heap.size B := (Blk.new w A _).congr (by funext j; rw [HA.out, HB.out]; simp)
  have h1 : OAt (w.alloc (.cells A 28)) c p F w.heap.size (s0, B) := ⟨by rw [HS0.out]; exact H.out.co.keep hm0 fun _ _ h => h, hbl, fun hf => by have := H.out.co.lt _ hf; omega⟩
  generalize w.alloc (.cells A 28) = w0 at hm0 h1 ⊢
  have HM0 := hid hm0
  have A0 := hid h1
  obtain ⟨gb, hgb⟩ : ∃ gb, gb = w.heap.size := ⟨_, rfl⟩
  rw [← hgb] at A0 ⊢
  have HG1 := hid hgb
  obtain ⟨F0, hF0⟩ : ∃ F0, F0 = F := ⟨_, rfl⟩
  rw [← hF0] at A0
  have HF0 := hid hF0
  have G0 : Hid (GG w0 F0 gb w0 F0) := GG.refl _ _ _
  have BC : ∀ j, B j = v.cells[j]? := fun j => by rw [HB.out]
  have HBC := hid BC
  clear hm0 hbl h1 hA1 hgb hF0 BC
  have hv0 : B 0 = some (.bool v.hasMode) := HBC.out 0
  refine OAt.put7 A0.out (wr_bool (v := v.hasMode) (by have := HN.out; have := K0.out; simp only; omega) p) (fun _ _ _ _ _ h => h) rfl (by kernel_rfl) (n := 87) rfl rfl rfl (by decide) enter_bool (o := 0) (fun w => by go_simp) (fun w => load_bool w _ _ _) hv0 (fun F1 w1 A1 g1 => ?_)
  simp only [Act.put, List.setIfInBounds_toArray, List.set_cons_succ, List.set_cons_zero]
  replace A1 : Hid (OAt w1 c p F1 gb (s1, B)) := by rw [E1.out]; exact A1
  have G1 := hid (G0.out.trans g1.out); clear g1
  have hc1 := (A1.out.bl.cell 0).trans hv0; clear hv0
  go_upto_if 12 with fail
  go_cut [] from 4 (fun wx => ∃ F', Hid (OAt wx c p F' gb (s2, B)) ∧ Hid (GG w0 F0 gb wx F'))
  case first =>
    rcases hbb : v.hasMode with _ | _
    · have hy : s2 = s1 := by rw [E2.out, oIf, hbb]; rfl
      have HY := hid hy; clear hy; rw [hbb] at hc1
      go_wp2_with fail
      go_meet
      case rel => obtain rfl := HY.out; exact ⟨F1, A1, G1⟩
    · have hy : s2 = oNumber 0 4294967295 v.mode s1 := by rw [E2.out, oIf, hbb]; rfl
      have HY := hid hy; clear hy; rw [hbb] at hc1
      have hw1 : B 4 = some (.int .i64 v.mode) := HBC.out 4
      have hcf := (A1.out.bl.cell 4).trans hw1
      have D := hid (num_out c p F1 gb _ v.mode w1 A1.out (by have := HN.out; have := K1.out; simp only; omega))
      clear hw1
      go_wp2_with fail
      refine D.out.mono ?_
      rintro e w2 ⟨rfl, F2, A2, g2⟩
      clear hcf D hc1
      replace A2 : Hid (OAt w2 c p F2 gb (s2, B)) := by rw [HY.out]; exact A2
      have G2 := hid (G1.out.trans g2.out); clear g2
      go_wp2_with fail
      go_meet
      case rel => exact ⟨F2, A2, G2⟩
  case rest =>
    obtain ⟨F2, A2, G2⟩ := hcut
    clear hc1 A1 G1
    go_upto_region 4 with fail
    have hv2 : B 1 = some (.bool v.hasUid) := HBC.out 1
    refine OAt.put7 A2.out (wr_bool (v := v.hasUid) (by have := HN.out; have := K2.out; simp only; omega) p) (fun _ _ _ _ _ h => h) rfl (by kernel_rfl) (n := 87) rfl rfl rfl (by decide) enter_bool (o := 1) (fun w => by go_simp) (fun w => load_bool w _ _ _) hv2 (fun F3 w3 A3 g3 => ?_)
    simp only [Act.put, List.setIfInBounds_toArray, List.set_cons_succ, List.set_cons_zero]
    replace A3 : Hid (OAt w3 c p F3 gb (s3, B)) := by rw [E3.out]; exact A3
    have G3 := hid (G2.out.trans g3.out); clear g3
    have hc3 := (A3.out.bl.cell 1).trans hv2; clear hv2
    go_upto_if 25 with fail
    go_cut [] from 4 (fun wx => ∃ F', Hid (OAt wx c p F' gb (s4, B)) ∧ Hid (GG w0 F0 gb wx F'))
    case first =>
      rcases hbb : v.hasUid with _ | _
      · have hy : s4 = s3 := by rw [E4.out, oIf, hbb]; rfl
        have HY := hid hy; clear hy; rw [hbb] at hc3
        go_wp2_with fail
        go_meet
        case rel => obtain rfl := HY.out; exact ⟨F3, A3, G3⟩
      · have hy : s4 = oU32 v.uid s3 := by rw [E4.out, oIf, hbb]; rfl
        have HY := hid hy; clear hy; rw [hbb] at hc3
        have hw3 : B 5 = some (.int .u32 v.uid) := HBC.out 5
        go_upto_region 6 with fail
        refine OAt.put7 A3.out (wr_u32 (v := v.uid) (by have := HN.out; have := K3.out; simp only; omega) HG.out.2.1 p) (fun _ _ _ _ _ h => h) rfl (by kernel_rfl) (n := 87) rfl rfl rfl (by decide) enter_u32 (o := 5) (fun w => by go_simp) (fun w => load_u32 w _ _ _) hw3 (fun F4 w4 A4 g4 => ?_)
        simp only [Act.put, List.setIfInBounds_toArray, List.set_cons_succ, List.set_cons_zero]
        clear hw3 hc3
        replace A4 : Hid (OAt w4 c p F4 gb (s4, B)) := by rw [HY.out]; exact A4
        have G4 := hid (G3.out.trans g4.out); clear g4
        go_wp2_with fail
        go_meet
        case rel => exact ⟨F4, A4, G4⟩
    case rest =>
      obtain ⟨F4, A4, G4⟩ := hcut
      clear hc3 A3 G3
      go_upto_region 7 with fail
      have hv4 : B 2 = some (.bool v.hasGid) := HBC.out 2
      refine OAt.put7 A4.out (wr_bool (v := v.hasGid) (by have := HN.out; have := K4.out; simp only; omega) p) (fun _ _ _ _ _ h => h) rfl (by kernel_rfl) (n := 87) rfl rfl rfl (by decide) enter_bool (o := 2) (fun w => by go_simp) (fun w => load_bool w _ _ _) hv4 (fun F5 w5 A5 g5 => ?_)
      simp only [Act.put, List.setIfInBounds_toArray, List.set_cons_succ, List.set_cons_zero]
      replace A5 : Hid (OAt w5 c p F5 gb (s5, B)) := by rw [E5.out]; exact A5
      have G5 := hid (G4.out.trans g5.out); clear g5
      have hc5 := (A5.out.bl.cell 2).trans hv4; clear hv4
      go_upto_if 41 with fail
      go_cut [] from 4 (fun wx => ∃ F', Hid (OAt wx c p F' gb (s6, B)) ∧ Hid (GG w0 F0 gb wx F'))
      case first =>
        rcases hbb : v.hasGid with _ | _
        · have hy : s6 = s5 := by rw [E6.out, oIf, hbb]; rfl
          have HY := hid hy; clear hy; rw [hbb] at hc5
          go_wp2_with fail
          go_meet
          case rel => obtain rfl := HY.out; exact ⟨F5, A5, G5⟩
        · have hy : s6 = oU32 v.gid s5 := by rw [E6.out, oIf, hbb]; rfl
          have HY := hid hy; clear hy; rw [hbb] at hc5
          have hw5 : B 6 = some (.int .u32 v.gid) := HBC.out 6
          go_upto_region 9 with fail
          refine OAt.put7 A5.out (wr_u32 (v := v.gid) (by have := HN.out; have := K5.out; simp only; omega) HG.out.2.2.1 p) (fun _ _ _ _ _ h => h) rfl (by kernel_rfl) (n := 87) rfl rfl rfl (by decide) enter_u32 (o := 6) (fun w => by go_simp) (fun w => load_u32 w _ _ _) hw5 (fun F6 w6 A6 g6 => ?_)
          simp only [Act.put, List.setIfInBounds_toArray, List.set_cons_succ, List.set_cons_zero]
          clear hw5 hc5
          replace A6 : Hid (OAt w6 c p F6 gb (s6, B)) := by rw [HY.out]; exact A6
          have G6 := hid (G5.out.trans g6.out); clear g6
          go_wp2_with fail
          go_meet
          case rel => exact ⟨F6, A6, G6⟩
      case rest =>
        obtain ⟨F6, A6, G6⟩ := hcut
        clear hc5 A5 G5
        go_upto_region 10 with fail
        have hv6 : B 3 = some (.bool v.hasSize) := HBC.out 3
        refine OAt.put7 A6.out (wr_bool (v := v.hasSize) (by have := HN.out; have := K6.out; simp only; omega) p) (fun _ _ _ _ _ h => h) rfl (by kernel_rfl) (n := 87) rfl rfl rfl (by decide) enter_bool (o := 3) (fun w => by go_simp) (fun w => load_bool w _ _ _) hv6 (fun F7 w7 A7 g7 => ?_)
        simp only [Act.put, List.setIfInBounds_toArray, List.set_cons_succ, List.set_cons_zero]
        replace A7 : Hid (OAt w7 c p F7 gb (s7, B)) := by rw [E7.out]; exact A7
        have G7 := hid (G6.out.trans g7.out); clear g7
        have hc7 := (A7.out.bl.cell 3).trans hv6; clear hv6
        go_upto_if 57 with fail
        go_cut [] from 4 (fun wx => ∃ F', Hid (OAt wx c p F' gb (s8, B)) ∧ Hid (GG w0 F0 gb wx F'))
        case first =>
          rcases hbb : v.hasSize with _ | _
          · have hy : s8 = s7 := by rw [E8.out, oIf, hbb]; rfl
            have HY := hid hy; clear hy; rw [hbb] at hc7
            go_wp2_with fail
            go_meet
            case rel => obtain rfl := HY.out; exact ⟨F7, A7, G7⟩
          · have hy : s8 = oU64 v.size s7 := by rw [E8.out, oIf, hbb]; rfl
            have HY := hid hy; clear hy; rw [hbb] at hc7
            have hw7 : B 7 = some (.int .u64 v.size) := HBC.out 7
            go_upto_region 12 with fail
            refine OAt.put7 A7.out (wr_u64 (v := v.size) (by have := HN.out; have := K7.out; simp only; omega) HG.out.2.2.2.1 p) (fun _ _ _ _ _ h => h) rfl (by kernel_rfl) (n := 87) rfl rfl rfl (by decide) enter_u64 (o := 7) (fun w => by go_simp) (fun w => load_u64 w _ _ _) hw7 (fun F8 w8 A8 g8 => ?_)
            simp only [Act.put, List.setIfInBounds_toArray, List.set_cons_succ, List.set_cons_zero]
            clear hw7 hc7
            replace A8 : Hid (OAt w8 c p F8 gb (s8, B)) := by rw [HY.out]; exact A8
            have G8 := hid (G7.out.trans g8.out); clear g8
            go_wp2_with fail
            go_meet
            case rel => exact ⟨F8, A8, G8⟩
        case rest =>
          obtain ⟨F8, A8, G8⟩ := hcut
          clear hc7 A7 G7
          have hv8 : B 8 = some (.int .i64 v.atimeHow) := HBC.out 8
          have hc8 := (A8.out.bl.cell 8).trans hv8
          have D := hid (upto_out c p F8 gb _ v.atimeHow 0 2 _ A8.out (by have := HN.out; have := K8.out; simp only; omega))
          go_wp2_with fail
          refine D.out.mono ?_
          rintro e wy8 ⟨rfl, Fy8, Ay8, gy8⟩
          have Gy8 := hid (G8.out.trans gy8.out); clear gy8 D hc8
          have hcy8 := (Ay8.out.bl.cell 8).trans hv8
          have hct0 : wy8.cell? ⟨gb, 10, none⟩ = some (.int .u32 v.atime.sec) := (Ay8.out.bl.cell 10).trans (HBC.out 10)
          have hct1 : wy8.cell? ⟨gb, 11, none⟩ = some (.int .u32 v.atime.nsec) := (Ay8.out.bl.cell 11).trans (HBC.out 11)
          have HT := hid (time_out c p Fy8 gb _ v.atime wy8 Ay8.out (by have := HN.out; have := K8.out; have := size_oNumber 0 2 v.atimeHow s8; simp only [oNumber] at this ⊢; omega) HG.out.2.2.2.2.2.2.1)
          clear hv8 A8 G8
          go_upto_if 71 with fail
          go_cut [] from 4 (fun wx => ∃ F', Hid (OAt wx c p F' gb (s9, B)) ∧ Hid (GG w0 F0 gb wx F'))
          case first =>
            by_cases hbb : v.atimeHow = 2
            · have hy : s9 = oTime v.atime (oNumber 0 2 v.atimeHow s8) := by rw [E9.out, oHow, if_pos hbb]
              have HY := hid hy; clear hy; rw [hbb] at hcy8
              have hb2 : (v.atimeHow == 2) = true := by simpa using hbb
              clear hbb
              go_wp2_with fail
              refine HT.out.mono ?_
              rintro e w9 ⟨rfl, F9, A9, g9⟩
              clear hct0 hct1 HT hcy8
              replace A9 : Hid (OAt w9 c p F9 gb (s9, B)) := by rw [HY.out]; exact A9
              have G9 := hid (Gy8.out.trans g9.out); clear g9
              go_wp2_with fail
              go_meet
              case rel => exact ⟨F9, A9, G9⟩
            · have hy : s9 = oNumber 0 2 v.atimeHow s8 := by rw [E9.out, oHow, if_neg hbb]
              have HY := hid hy; clear hy
              have hb2 : (v.atimeHow == 2) = false := by simpa using hbb
              clear hbb HT hct0 hct1
              go_wp2_with fail
              have A9 : Hid (OAt wy8 c p Fy8 gb (s9, B)) := by rw [HY.out]; exact Ay8
              have G9 := Gy8; obtain ⟨F9, hF9⟩ : ∃ z, z = Fy8 := ⟨_, rfl⟩; rw [← hF9] at A9 G9
              go_meet
              case rel => exact ⟨F9, A9, G9⟩
          case rest =>
            obtain ⟨F9, A9, G9⟩ := hcut
            clear HT hct0 hct1 hcy8 Ay8 Gy8
            have hv9 : B 9 = some (.int .i64 v.mtimeHow) := HBC.out 9
            have hc9 := (A9.out.bl.cell 9).trans hv9
            have D := hid (upto_out c p F9 gb _ v.mtimeHow 0 2 _ A9.out (by have := HN.out; have := K9.out; simp only; omega))
            go_wp2_with fail
            refine D.out.mono ?_
            rintro e wy9 ⟨rfl, Fy9, Ay9, gy9⟩
            have Gy9 := hid (G9.out.trans gy9.out); clear gy9 D hc9
            have hcy9 := (Ay9.out.bl.cell 9).trans hv9
            have hct0 : wy9.cell? ⟨gb, 12, none⟩ = some (.int .u32 v.mtime.sec) := (Ay9.out.bl.cell 12).trans (HBC.out 12)
            have hct1 : wy9.cell? ⟨gb, 13, none⟩ = some (.int .u32 v.mtime.nsec) := (Ay9.out.bl.cell 13).trans (HBC.out 13)
            have HT := hid (time_out c p Fy9 gb _ v.mtime wy9 Ay9.out (by have := HN.out; have := K9.out; have := size_oNumber 0 2 v.mtimeHow s9; simp only [oNumber] at this ⊢; omega) HG.out.2.2.2.2.2.2.2)
            clear hv9 A9 G9
            go_upto_if 82 with fail
            by_cases hbb : v.mtimeHow = 2
            · have hy : s10 = oTime v.mtime (oNumber 0 2 v.mtimeHow s9) := by rw [E10.out, oHow, if_pos hbb]
              have HY := hid hy; clear hy; rw [hbb] at hcy9
              have hb2 : (v.mtimeHow == 2) = true := by simpa using hbb
              clear hbb
              go_wp2_with fail
              refine HT.out.mono ?_
              rintro e w10 ⟨rfl, F10, A10, g10⟩
              clear hct0 hct1 HT hcy9
              replace A10 : Hid (OAt w10 c p F10 gb (s10, B)) := by rw [HY.out]; exact A10
              have G10 := hid (Gy9.out.trans g10.out); clear g10
              go_wp2
              go_end0
              have hsz : w.heap.size ≤ gb := Nat.le_of_eq HG1.out.symm
              have h2 := H.out.other HM0.out hsz A10.out (by rw [← HF0.out]; exact G10.out)
              rw [hend.out]
              exact ⟨rfl, F10, h2.1, h2.2⟩
            · have hy : s10 = oNumber 0 2 v.mtimeHow s9 := by rw [E10.out, oHow, if_neg hbb]
              have HY := hid hy; clear hy
              have hb2 : (v.mtimeHow == 2) = false := by simpa using hbb
              clear hbb HT hct0 hct1
              go_wp2
              have A10 : Hid (OAt wy9 c p Fy9 gb (s10, B)) := by rw [HY.out]; exact Ay9
              have G10 := Gy9; obtain ⟨F10, hF10⟩ : ∃ z, z = Fy9 := ⟨_, rfl⟩; rw [← hF10] at A10 G10
              go_end0
              have hsz : w.heap.size ≤ gb := Nat.le_of_eq HG1.out.symm
              have h2 := H.out.other HM0.out hsz A10.out (by rw [← HF0.out]; exact G10.out)
              rw [hend.out]
              exact ⟨rfl, F10, h2.1, h2.2⟩

end Go.Proofs.Ytanknjpcgceccaa
