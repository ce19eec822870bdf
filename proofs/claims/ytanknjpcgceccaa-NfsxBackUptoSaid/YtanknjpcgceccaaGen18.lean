/- nfsx's coder: space. -/
import Derived.Test.YtanknjpcgceccaaGen17
import Derived.Test.YtanknjpcgceccaaGen11
import Derived.Test.YtanknjpcgceccaaReg
namespace Go.Proofs.Ytanknjpcgceccaa
open Go.RowKit

/-- What is free, twice; written: the cell's number again; read: another one, which must be the same. -/
def pSpace (x : X) : X :=
  if x.1.isWr then pFixed [0] (num1 8 .u64 87 (nums 8 .u64 [86, 87] (num1 8 .u64 85 (nums 8 .u64 [84, 85] x))))
  else
    let y1 := nums 8 .u64 [84, 85] x
    let b := y1.1.num 8 0
    let y2 := nums 8 .u64 [86, 87] (b.2, y1.2)
    let f := y2.1.num 8 0
    pFixed [0] (pMust (b.1 == iv (y2.2 85) && f.1 == iv (y2.2 87)) (f.2, y2.2))

theorem rd_num {s : St} (h : s.isWr = false) (n : Nat) (u v : Int) : s.num n u = s.num n v := by
  cases s with
  | wr b out => cases h
  | rd inp pos err b => rfl
/-- A number that is read into a variable of its own. -/
theorem u64_at (c : Nat) (F : Nat → Prop) (g : Nat) (x : X) (h : Nat) (b : Int) (t : TypeId) (w : World) (ha : At w c F g x) (hlen : x.1.size + 8 ≤ 20000000) (hb : 0 ≤ b ∧ b < ((256 ^ 8 : Nat) : Int)) (hF : ¬ F h) (hg : g ≠ h) (hc : w.cell? ⟨h, 0, none⟩ = some (.int .u64 b)) (hz : h < w.heap.size ∧ ∀ j, w.frozen? ⟨h, j, none⟩ = false) :
    Calls Try.prog 56 #[.pointer (some ⟨c, 0, none⟩), .slice (some ⟨w.heap.size, 0, none⟩) 1 1] (w.alloc (.cells #[.pointer (some ⟨h, 0, none⟩)] t)) fun e w' =>
      e = .returned (.tuple #[]) ∧ ∃ F', Hid (At w' c F' g ((x.1.num 8 b).2, x.2)) ∧ Hid (Mods (fun k => F k ∨ k = h) w w') ∧ Hid (∀ k, F' k → F k ∨ w.heap.size ≤ k) ∧ w'.cell? ⟨h, 0, none⟩ = some (.int .u64 (x.1.num 8 b).1) := by
  have hm : Mods (fun _ => False) w (w.alloc (.cells #[.pointer (some ⟨h, 0, none⟩)] t)) := Mods.alloc _ _ _
  have hblk : Blk w h (fun j => w.cell? ⟨h, j, none⟩) := ⟨hz.1, fun _ => rfl, hz.2⟩
  have hlt := ha.bl.lt
  refine (u64_gen c F x.1 h (fun j => w.cell? ⟨h, j, none⟩) _ 1 [0] _ (ha.co.keep hm fun _ _ h => h) (hblk.keep hm fun h => h) hF hlen (by simp) (by
    intro o ho
    simp only [List.mem_singleton] at ho
    subst ho
    exact ⟨b, hc, hb⟩) (Sl.ptr w _ t) (fun k hk => by
    have hk' : w.heap.size = k := hk.2
    subst hk'
    exact ⟨fun hf => by have := ha.co.lt _ hf; omega, by have := hz.1; omega⟩)).mono ?_
  rintro e w' ⟨F', rfl, h1, h2, h3, h4⟩
  have hiv : iv (w.cell? ⟨h, 0, none⟩) = b := by rw [hc]; rfl
  have e1 : nums 8 .u64 [0] (x.1, fun j => w.cell? ⟨h, j, none⟩) = ((x.1.num 8 b).2, upd (fun j => w.cell? ⟨h, j, none⟩) 0 (.int .u64 (x.1.num 8 b).1)) := by
    show num1 8 .u64 0 (x.1, fun j => w.cell? ⟨h, j, none⟩) = _
    simp only [num1, hiv]
  rw [e1] at h1 h4
  have hf' : ∀ k, F' k → F k ∨ w.heap.size ≤ k := fun k hk => (h3 k hk).imp id fun h => by simp at h; omega
  refine ⟨rfl, F', ⟨h1, (ha.bl.keep hm fun h => h).keep h2 (fun e => e.elim ha.ap hg), fun hf => ?_⟩, (hm.mono fun _ _ h => h.elim).trans h2, hf', (h4.cell 0).trans rfl⟩
  rcases hf' g hf with h5 | h5
  · exact ha.ap h5
  · omega

set_option maxRecDepth 100000 in
set_option maxHeartbeats 4000000 in
theorem space_gen (c : Nat) (F0 : Nat → Prop) (g : Nat) (y0 : X) (dv ev : Value) (w0 : World) (h : At w0 c F0 g y0) (hk : Ok (resLay dv ev) 4000000 y0) :
    Calls Try.prog 92 #[.pointer (some ⟨c, 0, none⟩), .pointer (some ⟨g, 0, none⟩)] w0 (fun e w' => GQ w0 c F0 g (.tuple #[]) (pSpace y0) e w' ∧ Ok (resLay dv ev) 6000000 (pSpace y0)) := by
  have hv1 := (hk.ty 85 _ rfl).u64v
  have hv2 := (hk.ty 87 _ rfl).u64v
  have hc1 := (h.bl.cell 85).trans hv1
  have hc2 := (h.bl.cell 87).trans hv2
  obtain ⟨b0, hb0⟩ : ∃ b, b = iv (y0.2 85) := ⟨_, rfl⟩
  obtain ⟨f0, hf0⟩ : ∃ b, b = iv (y0.2 87) := ⟨_, rfl⟩
  rw [← hb0] at hc1
  rw [← hf0] at hc2
  have A0 : Hid (At w0 c F0 g y0) := h
  have K0 : Hid (Ok (resLay dv ev) 4000000 y0) := hk
  clear h hk hv1 hv2
  go_enter Try.func92, Try.ntmps92
  go_upto_region 0 with fail
  go_cut [4, 5] from 6 (fun v4 v5 wx => ∃ h0 h1, v4 = .pointer (some ⟨h0, 0, none⟩) ∧ v5 = .pointer (some ⟨h1, 0, none⟩) ∧ h0 ≠ h1 ∧ w0.heap.size ≤ h0 ∧ w0.heap.size ≤ h1 ∧ Hid (Mods (fun _ => False) w0 wx) ∧ wx.cell? ⟨h0, 0, none⟩ = some (.int .u64 b0) ∧ wx.cell? ⟨h1, 0, none⟩ = some (.int .u64 f0) ∧ Hid (h0 < wx.heap.size ∧ ∀ j, wx.frozen? ⟨h0, j, none⟩ = false) ∧ Hid (h1 < wx.heap.size ∧ ∀ j, wx.frozen? ⟨h1, j, none⟩ = false))
  case first =>
    refine wp_region_any (by kernel_rfl) ?_
    refine wpAny_take (i := 0) (v := .pointer (some ⟨g, 0, none⟩)) rfl (by kernel_rfl) (by kernel_rfl) (by kernel_rfl) (fun _ _ _ h => h) (Or.inl ⟨rfl, fun w => rfl⟩) ?_
    show wpAny _ _ _ _ _ _ (Act.put _ (some 6) _) _
    simp only [Act.put, List.setIfInBounds_toArray, List.set_cons_succ, List.set_cons_zero]
    refine wpAny_take (i := 1) (v := .pointer (some ⟨g, 0, none⟩)) rfl (by kernel_rfl) (by kernel_rfl) (by kernel_rfl) (fun _ _ _ h => h) (Or.inl ⟨rfl, fun w => by go_simp⟩) ?_
    show wpAny _ _ _ _ _ _ (Act.put _ (some 7) _) _
    simp only [Act.put, List.setIfInBounds_toArray, List.set_cons_succ, List.set_cons_zero]
    refine wpAny_take (i := 2) (v := .pointer (some ⟨g, 85, none⟩)) rfl (by kernel_rfl) (by kernel_rfl) (by kernel_rfl) (fun _ _ _ h => h) (Or.inl ⟨rfl, fun w => by go_simp⟩) ?_
    show wpAny _ _ _ _ _ _ (Act.put _ (some 8) _) _
    simp only [Act.put, List.setIfInBounds_toArray, List.set_cons_succ, List.set_cons_zero]
    refine wpAny_take (i := 4) (v := .pointer (some ⟨g, 0, none⟩)) rfl (by kernel_rfl) (by kernel_rfl) (by kernel_rfl) (fun _ _ _ h => h) (Or.inl ⟨rfl, fun w => rfl⟩) ?_
    show wpAny _ _ _ _ _ _ (Act.put _ (some 10) _) _
    simp only [Act.put, List.setIfInBounds_toArray, List.set_cons_succ, List.set_cons_zero]
    refine wpAny_take (i := 5) (v := .pointer (some ⟨g, 0, none⟩)) rfl (by kernel_rfl) (by kernel_rfl) (by kernel_rfl) (fun _ _ _ h => h) (Or.inl ⟨rfl, fun w => by go_simp⟩) ?_
    show wpAny _ _ _ _ _ _ (Act.put _ (some 11) _) _
    simp only [Act.put, List.setIfInBounds_toArray, List.set_cons_succ, List.set_cons_zero]
    refine wpAny_take (i := 6) (v := .pointer (some ⟨g, 87, none⟩)) rfl (by kernel_rfl) (by kernel_rfl) (by kernel_rfl) (fun _ _ _ h => h) (Or.inl ⟨rfl, fun w => by go_simp⟩) ?_
    show wpAny _ _ _ _ _ _ (Act.put _ (some 12) _) _
    simp only [Act.put, List.setIfInBounds_toArray, List.set_cons_succ, List.set_cons_zero]
    have hmd : Mods (fun _ => False) w0 w0.drew := Mods.drew _ _
    have LA : ∀ w, Mods (fun _ => False) w0.drew w → (Instr.loadAt 24 (.pointer (some ⟨g, 85, none⟩))).run Try.prog w = .ok (.int .u64 b0) w := fun w hm => load_u64 w _ _ _ (fun j v hj => by
      cases j with
      | zero => obtain rfl := Option.some.inj hj; exact (hmd.trans hm).cell hc1 fun h => h
      | succ j => simp at hj)
    have LB : ∀ w, Mods (fun _ => False) w0.drew w → (Instr.loadAt 24 (.pointer (some ⟨g, 87, none⟩))).run Try.prog w = .ok (.int .u64 f0) w := fun w hm => load_u64 w _ _ _ (fun j v hj => by
      cases j with
      | zero => obtain rfl := Option.some.inj hj; exact (hmd.trans hm).cell hc2 fun h => h
      | succ j => simp at hj)
    refine any_locals2 (n := 79) (x := 4) (y := 5) (d3 := 9) (d7 := 13) (q3 := 8) (q7 := 12) (z := .int .u64 0) rfl rfl rfl rfl rfl rfl rfl (dep12 (by kernel_rfl)) (by decide) rfl rfl rfl LA LB (fun w => by go_simp; try rfl) (fun ev w h u h1 h2 h3 h4 => ?_) (fun ev w h u h1 h2 h3 h4 => ?_) ?_
    · simp only [execOp, h1, h2]
      go_simp
    · simp only [execOp, h1, h2]
      go_simp
    · intro h0 h1 w' hne hl0 hl1 hm q1 q2 q3 q4
      simp only [Act.put, List.setIfInBounds_toArray, List.set_cons_succ, List.set_cons_zero]
      rename_i hK
      refine hK _ _ ?_
      go_meet
      case rel => exact ⟨h0, h1, rfl, rfl, hne, hl0, hl1, hmd.trans hm, q1, q2, q3, q4⟩
  case rest =>
    clear hc1 hc2
    obtain ⟨h0, h1, rfl, rfl, hne, hl0, hl1, hm, hq0, hq1, HZ0, HZ1⟩ := hcut
    obtain ⟨w1, rfl⟩ : ∃ z, z = wc := ⟨_, rfl⟩
    have A1 : Hid (At w1 c F0 g y0) := A0.out.keep hm.out
    have G1 : Hid (GG w0 F0 g w1 F0) := GG.new g hm.out
    have HNE := hid (And.intro hne (And.intro hl0 hl1))
    have HF0 := hid (fun k (hk : F0 k) => A0.out.co.lt k hk)
    have HGL := hid A0.out.bl.lt
    have HQ0 := hid hq0; have HQ1 := hid hq1
    clear hne hl0 hl1 hm hq0 hq1
    obtain ⟨y1, e1⟩ : ∃ z, z = nums 8 .u64 [84, 85] y0 := ⟨_, rfl⟩
    have K1 : Hid (Ok (resLay dv ev) 4000016 y1) := by rw [e1]; exact ((K0.out.num8 rfl).num8 rfl).mono (by decide)
    have C := fun w' (hm : Mods (fun _ => False) w1 w') => (A1.out.keep hm).u64s K0.out (by decide) (o := 84) (o2 := 85) 125 rfl rfl
    rw [← e1] at C
    have D := hid C; have E1 := hid e1; clear C e1
    go_wp2_with fail
    go_region_with (refine (D.out _ (Mods.drew _ _)).mono ?_; rintro e w2 ⟨rfl, F2, A2, g2⟩; have g2' := hid ((GG.new g (Mods.drew _ _)).trans g2.out); clear D g2)
    have G2 := hid (G1.out.trans g2'.out)
    have HX0 : ∀ k, (F0 k ∨ k = g) → k ≠ h0 ∧ k ≠ h1 := fun k hk => by
      have h2 := HNE.out
      rcases hk with hk | hk
      · have := HF0.out k hk; omega
      · have := HGL.out; omega
    have c0 : w2.cell? ⟨h0, 0, none⟩ = some (.int .u64 b0) := g2'.out.mods.cell HQ0.out fun hk => (HX0 _ hk).1 rfl
    have c1 : w2.cell? ⟨h1, 0, none⟩ = some (.int .u64 f0) := g2'.out.mods.cell HQ1.out fun hk => (HX0 _ hk).2 rfl
    have z0 : h0 < w2.heap.size ∧ ∀ j, w2.frozen? ⟨h0, j, none⟩ = false := ⟨Nat.lt_of_lt_of_le HZ0.out.1 g2'.out.mods.size, fun j => by rw [World.frozen?_of_block (g2'.out.mods.block h0 HZ0.out.1 fun hk => (HX0 _ hk).1 rfl)]; exact HZ0.out.2 j⟩
    have z1 : h1 < w2.heap.size ∧ ∀ j, w2.frozen? ⟨h1, j, none⟩ = false := ⟨Nat.lt_of_lt_of_le HZ1.out.1 g2'.out.mods.size, fun j => by rw [World.frozen?_of_block (g2'.out.mods.block h1 HZ1.out.1 fun hk => (HX0 _ hk).2 rfl)]; exact HZ1.out.2 j⟩
    -- F2: F0's blocks or new ones
    have hF2 : ∀ k, F2 k → k ≠ h0 ∧ k ≠ h1 := fun k hk => by
      rcases g2'.out.fresh k hk with h | h
      · exact HX0 k (.inl h)
      · have := HZ0.out.1; have := HZ1.out.1; omega
    have C0 := hid c0; have C1 := hid c1; have Z0 := hid z0; have Z1 := hid z1; have HF2 := hid hF2
    have HNG : Hid (g ≠ h0 ∧ g ≠ h1) := ⟨(HX0 g (.inr rfl)).1, (HX0 g (.inr rfl)).2⟩
    have HY1 : Hid (y1.1.isWr = y0.1.isWr) := by show _ = _; rw [E1.out]; exact (like_nums2 _ _ _ _ _).1
    clear c0 c1 z0 z1 hF2 HX0 HQ0 HQ1 HZ0 HZ1 g2' G1 A1 HF0
    rcases A2.out.co.c1 with ⟨hw, p, hc1⟩ | ⟨hw, hc1⟩
    · have HW : Hid (y0.1.isWr = true) := HY1.out.symm.trans hw
      clear hw C0 C1 Z0 Z1 HF2 HNG
      obtain ⟨y2, e2⟩ : ∃ z, z = num1 8 .u64 85 y1 := ⟨_, rfl⟩
      have K2 : Hid (Ok (resLay dv ev) 4000024 y2) := by rw [e2]; exact (K1.out.num8 rfl).mono (by decide)
      have D := hid (A2.out.u64 K1.out (by decide) (o := 85) 125 rfl)
      rw [← e2] at D
      have HY2 : Hid (y2.1.isWr = true) := by show _ = _; rw [e2, (like_num1 _ _ _ _).1, HY1.out, HW.out]
      have E2 := hid e2; clear e2
      go_wp2_with fail
      refine D.out.mono ?_
      rintro e w3 ⟨rfl, F3, A3, g3⟩
      have G3 := hid (G2.out.trans g3.out); clear D g3 hc1
      obtain ⟨y3, e3⟩ : ∃ z, z = nums 8 .u64 [86, 87] y2 := ⟨_, rfl⟩
      have K3 : Hid (Ok (resLay dv ev) 4000040 y3) := by rw [e3]; exact ((K2.out.num8 rfl).num8 rfl).mono (by decide)
      have C := fun w' (hm : Mods (fun _ => False) w3 w') => (A3.out.keep hm).u64s K2.out (by decide) (o := 86) (o2 := 87) 125 rfl rfl
      rw [← e3] at C
      have HY3 : Hid (y3.1.isWr = true) := by show _ = _; rw [e3, (like_nums2 _ _ _ _ _).1]; exact HY2.out
      have D := hid C; have E3 := hid e3; clear C e3
      go_wp2_with fail
      go_region_with (refine (D.out _ (Mods.drew _ _)).mono ?_; rintro e w4 ⟨rfl, F4, A4, g4⟩; have G4 := hid (G3.out.trans ((GG.new g (Mods.drew _ _)).trans g4.out)); clear D g4)
      obtain ⟨p4, hc4⟩ : ∃ p, w4.cell? ⟨c, 1, none⟩ = some (.pointer (some p)) := by
        rcases A4.out.co.c1 with ⟨_, h⟩ | ⟨h, _⟩
        · exact h
        · rw [HY3.out] at h; cases h
      obtain ⟨y4, e4⟩ : ∃ z, z = num1 8 .u64 87 y3 := ⟨_, rfl⟩
      have K4 : Hid (Ok (resLay dv ev) 4000048 y4) := by rw [e4]; exact (K3.out.num8 rfl).mono (by decide)
      have D := hid (A4.out.u64 K3.out (by decide) (o := 87) 125 rfl)
      rw [← e4] at D
      have E4 := hid e4; clear e4
      go_wp2_with fail
      refine D.out.mono ?_
      rintro e w5 ⟨rfl, F5, A5, g5⟩
      have G5 := hid (G4.out.trans g5.out); clear D g5 hc4
      obtain ⟨y5, e5⟩ : ∃ z, z = pFixed [0] y4 := ⟨_, rfl⟩
      have K5 : Hid (Ok (resLay dv ev) 4000052 y5) := by rw [e5]; exact (K4.out.fixed [0]).mono (by decide)
      have D := hid (A5.out.fixed K4.out [0] 23 (by decide) (by decide) (by decide) (by decide))
      rw [← e5] at D
      have E5 := hid e5; clear e5
      go_wp2_with fail
      refine D.out.mono ?_
      rintro e w6 ⟨rfl, F6, A6, g6⟩
      have G6 := hid (G5.out.trans g6.out); clear D g6
      go_wp2
      go_end0
      have hend : pSpace y0 = y5 := by rw [E5.out, E4.out, E3.out, E2.out, E1.out, pSpace, if_pos HW.out]
      rw [hend]
      exact ⟨⟨rfl, F6, A6, G6⟩, K5.out.mono (by decide)⟩
    · have HW : Hid (y0.1.isWr = false) := HY1.out.symm.trans hw
      have HB0 : Hid (0 ≤ b0 ∧ b0 < ((256 ^ 8 : Nat) : Int)) := by
        obtain ⟨v, h1, h2⟩ := K0.out.ty 85 _ rfl
        show 0 ≤ b0 ∧ _; rw [hb0, h1]; exact h2
      have HF0 : Hid (0 ≤ f0 ∧ f0 < ((256 ^ 8 : Nat) : Int)) := by
        obtain ⟨v, h1, h2⟩ := K0.out.ty 87 _ rfl
        show 0 ≤ f0 ∧ _; rw [hf0, h1]; exact h2
      have HW1 := hid hw
      clear hw hb0 hf0
      have d := u64_at c F2 g y1 h0 b0 125 w2 A2.out (by have := K1.out.size; omega) HB0.out (fun hk => (HF2.out _ hk).1 rfl) HNG.out.1 C0.out Z0.out
      rw [rd_num HW1.out 8 b0 0] at d
      obtain ⟨r, hr⟩ : ∃ r, r = y1.1.num 8 0 := ⟨_, rfl⟩
      rw [← hr] at d
      have K2 : Hid (Ok (resLay dv ev) 4000024 (r.2, y1.2)) := by rw [hr]; exact ⟨K1.out.ty, Nat.le_trans (St.size_num _ _ _) (Nat.add_le_add_right K1.out.size 8)⟩
      have HW2 : Hid (r.2.isWr = false) := by show _ = _; rw [hr, (like_num _ _ _).1]; exact HW1.out
      have HR := hid hr
      have D := hid d
      clear d hr
      go_wp2_with fail
      refine D.out.mono ?_
      rintro e w3 ⟨rfl, F3, A3, m3, f3, c3⟩
      have n3 : ¬ (F2 h1 ∨ h1 = h0) := fun h => h.elim (fun h => (HF2.out _ h).2 rfl) (fun h => HNE.out.1 h.symm)
      have C1' := hid (m3.out.cell C1.out n3)
      have Z1' : Hid (h1 < w3.heap.size ∧ ∀ j, w3.frozen? ⟨h1, j, none⟩ = false) := ⟨Nat.lt_of_lt_of_le Z1.out.1 m3.out.size, fun j => by rw [World.frozen?_of_block (m3.out.block h1 Z1.out.1 n3)]; exact Z1.out.2 j⟩
      have HF3 : Hid (∀ k, F3 k → k ≠ h0 ∧ k ≠ h1) := fun k hk => by
        rcases f3.out k hk with h | h
        · exact HF2.out k h
        · have := Z0.out.1; have := Z1.out.1; omega
      have C0' := hid c3
      have HZ0 : Hid (h0 < w3.heap.size) := Nat.lt_of_lt_of_le Z0.out.1 m3.out.size
      have G3 : Hid (GG w0 F0 g w3 F3) := ⟨G2.out.mods.step (m3.out) (fun k hk hf => by
        rcases hf with hf | hf
        · rcases G2.out.fresh k hf with h | h
          · exact .inl h
          · omega
        · have := HNE.out; omega), fun k hk => by
        rcases f3.out k hk with h | h
        · exact G2.out.fresh k h
        · exact .inr (Nat.le_trans G2.out.mods.size h)⟩
      clear D hc1 c3 C0 C1 Z0 Z1 n3 m3 f3 HF2
      obtain ⟨y3, e3⟩ : ∃ z, z = nums 8 .u64 [86, 87] (r.2, y1.2) := ⟨_, rfl⟩
      have K3 : Hid (Ok (resLay dv ev) 4000040 y3) := by rw [e3]; exact ((K2.out.num8 rfl).num8 rfl).mono (by decide)
      have C := fun w' (hm : Mods (fun _ => False) w3 w') => (A3.out.keep hm).u64s K2.out (by decide) (o := 86) (o2 := 87) 125 rfl rfl
      rw [← e3] at C
      have HW3 : Hid (y3.1.isWr = false) := by show _ = _; rw [e3, (like_nums2 _ _ _ _ _).1]; exact HW2.out
      have D := hid C; have E3 := hid e3; clear C e3
      go_wp2_with fail
      go_region_with (refine (D.out _ (Mods.drew _ _)).mono ?_; rintro e w4 ⟨rfl, F4, A4, g4⟩; have g4' := hid ((GG.new g (Mods.drew _ _)).trans g4.out); clear D g4)
      have n4 : ¬ (F3 h0 ∨ h0 = g) ∧ ¬ (F3 h1 ∨ h1 = g) := ⟨fun h => h.elim (fun h => (HF3.out _ h).1 rfl) (fun h => HNG.out.1 h.symm), fun h => h.elim (fun h => (HF3.out _ h).2 rfl) (fun h => HNG.out.2 h.symm)⟩
      have C04 := hid (g4'.out.mods.cell C0'.out n4.1)
      have C14 := hid (g4'.out.mods.cell C1'.out n4.2)
      have Z14 : Hid (h1 < w4.heap.size ∧ ∀ j, w4.frozen? ⟨h1, j, none⟩ = false) := ⟨Nat.lt_of_lt_of_le Z1'.out.1 g4'.out.mods.size, fun j => by rw [World.frozen?_of_block (g4'.out.mods.block h1 Z1'.out.1 n4.2)]; exact Z1'.out.2 j⟩
      have HF4 : Hid (∀ k, F4 k → k ≠ h0 ∧ k ≠ h1) := fun k hk => by
        rcases g4'.out.fresh k hk with h | h
        · exact HF3.out k h
        · have := Z1'.out.1; have := HZ0.out; omega
      have HZ04 : Hid (h0 < w4.heap.size) := Nat.lt_of_lt_of_le HZ0.out g4'.out.mods.size
      have G4 := hid (G3.out.trans g4'.out)
      have hc4 : w4.cell? ⟨c, 1, none⟩ = some (.pointer none) := by
        rcases A4.out.co.c1 with ⟨h, _⟩ | ⟨_, h⟩
        · rw [HW3.out] at h; cases h
        · exact h
      clear g4' n4 C0' C1' Z1' HF3 HZ0 G3
      have d := u64_at c F4 g y3 h1 f0 125 w4 A4.out (by have := K3.out.size; omega) HF0.out (fun hk => (HF4.out _ hk).2 rfl) HNG.out.2 C14.out Z14.out
      rw [rd_num HW3.out 8 f0 0] at d
      obtain ⟨q, hq⟩ : ∃ r, r = y3.1.num 8 0 := ⟨_, rfl⟩
      rw [← hq] at d
      have K4 : Hid (Ok (resLay dv ev) 4000048 (q.2, y3.2)) := by rw [hq]; exact ⟨K3.out.ty, Nat.le_trans (St.size_num _ _ _) (Nat.add_le_add_right K3.out.size 8)⟩
      have HQ := hid hq
      have D := hid d
      clear d hq
      go_wp2_with fail
      refine D.out.mono ?_
      rintro e w5 ⟨rfl, F5, A5, m5, f5, c5⟩
      have n5 : ¬ (F4 h0 ∨ h0 = h1) := fun h => h.elim (fun h => (HF4.out _ h).1 rfl) (fun h => HNE.out.1 h)
      have c05 := m5.out.cell C04.out n5
      have G5 : Hid (GG w0 F0 g w5 F5) := ⟨G4.out.mods.step (m5.out) (fun k hk hf => by
        rcases hf with hf | hf
        · rcases G4.out.fresh k hf with h | h
          · exact .inl h
          · omega
        · have := HNE.out; omega), fun k hk => by
        rcases f5.out k hk with h | h
        · exact G4.out.fresh k h
        · exact .inr (Nat.le_trans G4.out.mods.size h)⟩
      have HF5 : Hid (∀ k, F5 k → k ≠ h0 ∧ k ≠ h1) := fun k hk => by
        rcases f5.out k hk with h | h
        · exact HF4.out k h
        · have := Z14.out.1; have := HZ04.out; omega
      have v5 := (A5.out.bl.cell 85).trans (K4.out.ty 85 _ rfl).u64v
      have v7 := (A5.out.bl.cell 87).trans (K4.out.ty 87 _ rfl).u64v
      obtain ⟨b5, hb5⟩ : ∃ b, b = iv (y3.2 85) := ⟨_, rfl⟩
      obtain ⟨b7, hb7⟩ : ∃ b, b = iv (y3.2 87) := ⟨_, rfl⟩
      rw [← hb5] at v5
      rw [← hb7] at v7
      obtain ⟨ok, hok⟩ : ∃ b, b = (r.1 == b5 && q.1 == b7) := ⟨_, rfl⟩
      obtain ⟨y5, e5⟩ : ∃ z, z = pMust ok (q.2, y3.2) := ⟨_, rfl⟩
      have K5 : Hid (Ok (resLay dv ev) 4000048 y5) := by rw [e5]; exact K4.out.must _
      obtain ⟨y6, e6⟩ : ∃ z, z = pFixed [0] y5 := ⟨_, rfl⟩
      have K6 : Hid (Ok (resLay dv ev) 4000052 y6) := by rw [e6]; exact (K5.out.fixed [0]).mono (by decide)
      have HEND : Hid (pSpace y0 = y6) := by
        show pSpace y0 = y6
        rw [e6, e5, hok, hb5, hb7, pSpace, HW.out]
        simp only [Bool.false_eq_true, if_false]
        rw [← E1.out, ← HR.out, ← E3.out, ← HQ.out]
      have DM := hid (fun w' (hm : Mods (fun _ => False) w5 w') => (A5.out.keep hm).must ok)
      have E5 := hid e5; have E6 := hid e6; have HOK := hid hok
      clear D hc4 n5 m5 f5 hb5 hb7 e5 e6 hok C04 C14 Z14 HF4 HZ04 G4 G2
      by_cases h5 : r.1 = b5
      · have h5' : (r.1 == b5) = true := by simpa using h5
        by_cases h7 : q.1 = b7
        · have h7' : (q.1 == b7) = true := by simpa using h7
          have HB5 := hid h5'; have HB7 := hid h7'
          clear h5 h7 h5' h7'
          have HY : Hid (y5 = pMust true (q.2, y3.2)) := by show y5 = _; rw [E5.out, HOK.out, HB5.out, HB7.out]; rfl
          have DN := hid (fun w' (hm : Mods (fun _ => False) w5 w') => (A5.out.keep hm).must true)
          rw [← HY.out] at DN
          clear DM
          go_upto_region 8 with fail
          refine wp_region_held_drew (S := fun w' => w'.cell? ⟨h0, 0, none⟩ = some (.int .u64 r.1) ∧ w'.cell? ⟨h1, 0, none⟩ = some (.int .u64 q.1) ∧ w'.cell? ⟨g, 85, none⟩ = some (.int .u64 b5) ∧ w'.cell? ⟨g, 87, none⟩ = some (.int .u64 b7)) (by kernel_rfl) ⟨c05, c5, v5, v7⟩ (fun hHeld => ?_)
          refine wpAnyH_take (i := 0) (v := .pointer (some ⟨c, 0, none⟩)) rfl (by kernel_rfl) (by kernel_rfl) (by kernel_rfl) (fun _ _ _ h => h) (Or.inl ⟨by rfl, ?hy⟩) hHeld ?_
          case hy => intro w hSw; obtain ⟨t1, t2, t3, t4⟩ := hSw; go_simp; try with_reducible rfl
          show wpAnyH _ _ _ _ _ _ _ (Act.put _ (some 54) _) _
          simp only [Act.put, List.setIfInBounds_toArray, List.set_cons_succ, List.set_cons_zero]
          refine wpAnyH_take (i := 1) (v := .int .u64 r.1) rfl (by kernel_rfl) (by kernel_rfl) (by kernel_rfl) (fun _ _ _ h => h) (Or.inl ⟨by rfl, ?hy⟩) hHeld ?_
          case hy => intro w hSw; obtain ⟨t1, t2, t3, t4⟩ := hSw; go_simp; try with_reducible rfl
          show wpAnyH _ _ _ _ _ _ _ (Act.put _ (some 55) _) _
          simp only [Act.put, List.setIfInBounds_toArray, List.set_cons_succ, List.set_cons_zero]
          refine wpAnyH_take (i := 2) (v := .pointer (some ⟨g, 0, none⟩)) rfl (by kernel_rfl) (by kernel_rfl) (by kernel_rfl) (fun _ _ _ h => h) (Or.inl ⟨by rfl, ?hy⟩) hHeld ?_
          case hy => intro w hSw; obtain ⟨t1, t2, t3, t4⟩ := hSw; go_simp; try with_reducible rfl
          show wpAnyH _ _ _ _ _ _ _ (Act.put _ (some 56) _) _
          simp only [Act.put, List.setIfInBounds_toArray, List.set_cons_succ, List.set_cons_zero]
          refine wpAnyH_take (i := 3) (v := .pointer (some ⟨g, 0, none⟩)) rfl (by kernel_rfl) (by kernel_rfl) (by kernel_rfl) (fun _ _ _ h => h) (Or.inl ⟨by rfl, ?hy⟩) hHeld ?_
          case hy => intro w hSw; obtain ⟨t1, t2, t3, t4⟩ := hSw; go_simp; try with_reducible rfl
          show wpAnyH _ _ _ _ _ _ _ (Act.put _ (some 57) _) _
          simp only [Act.put, List.setIfInBounds_toArray, List.set_cons_succ, List.set_cons_zero]
          refine wpAnyH_take (i := 4) (v := .pointer (some ⟨g, 85, none⟩)) rfl (by kernel_rfl) (by kernel_rfl) (by kernel_rfl) (fun _ _ _ h => h) (Or.inl ⟨by rfl, ?hy⟩) hHeld ?_
          case hy => intro w hSw; obtain ⟨t1, t2, t3, t4⟩ := hSw; go_simp; try with_reducible rfl
          show wpAnyH _ _ _ _ _ _ _ (Act.put _ (some 58) _) _
          simp only [Act.put, List.setIfInBounds_toArray, List.set_cons_succ, List.set_cons_zero]
          refine wpAnyH_take (i := 5) (v := .int .u64 b5) rfl (by kernel_rfl) (by kernel_rfl) (by kernel_rfl) (fun _ _ _ h => h) (Or.inl ⟨by rfl, ?hy⟩) hHeld ?_
          case hy => intro w hSw; obtain ⟨t1, t2, t3, t4⟩ := hSw; go_simp; try with_reducible rfl
          show wpAnyH _ _ _ _ _ _ _ (Act.put _ (some 59) _) _
          simp only [Act.put, List.setIfInBounds_toArray, List.set_cons_succ, List.set_cons_zero]
          refine wpAnyH_take (i := 6) (v := .bool true) rfl (by kernel_rfl) (by kernel_rfl) (by kernel_rfl) (fun _ _ _ h => h) (Or.inl ⟨by rfl, ?hy⟩) hHeld ?_
          case hy => intro w hSw; obtain ⟨t1, t2, t3, t4⟩ := hSw; have t5 := HB5.out; go_simp; try with_reducible rfl
          show wpAnyH _ _ _ _ _ _ _ (Act.put _ (some 60) _) _
          simp only [Act.put, List.setIfInBounds_toArray, List.set_cons_succ, List.set_cons_zero]
          refine wpAnyH_take (i := 7) (v := .bool true) rfl (by kernel_rfl) (by kernel_rfl) (by kernel_rfl) (fun _ _ _ h => h) (Or.inl ⟨by rfl, ?hy⟩) hHeld ?_
          case hy => intro w hSw; obtain ⟨t1, t2, t3, t4⟩ := hSw; go_simp; try with_reducible rfl
          show wpAnyH _ _ _ _ _ _ _ (Act.put _ (some 61) _) _
          simp only [Act.put, List.setIfInBounds_toArray, List.set_cons_succ, List.set_cons_zero]
          refine wpAnyH_take (i := 8) (v := .int .u64 q.1) rfl (by kernel_rfl) (by kernel_rfl) (by kernel_rfl) (fun _ _ _ h => h) (Or.inl ⟨by rfl, ?hy⟩) hHeld ?_
          case hy => intro w hSw; obtain ⟨t1, t2, t3, t4⟩ := hSw; go_simp; try with_reducible rfl
          show wpAnyH _ _ _ _ _ _ _ (Act.put _ (some 62) _) _
          simp only [Act.put, List.setIfInBounds_toArray, List.set_cons_succ, List.set_cons_zero]
          refine wpAnyH_take (i := 9) (v := .pointer (some ⟨g, 0, none⟩)) rfl (by kernel_rfl) (by kernel_rfl) (by kernel_rfl) (fun _ _ _ h => h) (Or.inl ⟨by rfl, ?hy⟩) hHeld ?_
          case hy => intro w hSw; obtain ⟨t1, t2, t3, t4⟩ := hSw; go_simp; try with_reducible rfl
          show wpAnyH _ _ _ _ _ _ _ (Act.put _ (some 63) _) _
          simp only [Act.put, List.setIfInBounds_toArray, List.set_cons_succ, List.set_cons_zero]
          refine wpAnyH_take (i := 10) (v := .pointer (some ⟨g, 0, none⟩)) rfl (by kernel_rfl) (by kernel_rfl) (by kernel_rfl) (fun _ _ _ h => h) (Or.inl ⟨by rfl, ?hy⟩) hHeld ?_
          case hy => intro w hSw; obtain ⟨t1, t2, t3, t4⟩ := hSw; go_simp; try with_reducible rfl
          show wpAnyH _ _ _ _ _ _ _ (Act.put _ (some 64) _) _
          simp only [Act.put, List.setIfInBounds_toArray, List.set_cons_succ, List.set_cons_zero]
          refine wpAnyH_take (i := 11) (v := .pointer (some ⟨g, 87, none⟩)) rfl (by kernel_rfl) (by kernel_rfl) (by kernel_rfl) (fun _ _ _ h => h) (Or.inl ⟨by rfl, ?hy⟩) hHeld ?_
          case hy => intro w hSw; obtain ⟨t1, t2, t3, t4⟩ := hSw; go_simp; try with_reducible rfl
          show wpAnyH _ _ _ _ _ _ _ (Act.put _ (some 65) _) _
          simp only [Act.put, List.setIfInBounds_toArray, List.set_cons_succ, List.set_cons_zero]
          refine wpAnyH_take (i := 12) (v := .int .u64 b7) rfl (by kernel_rfl) (by kernel_rfl) (by kernel_rfl) (fun _ _ _ h => h) (Or.inl ⟨by rfl, ?hy⟩) hHeld ?_
          case hy => intro w hSw; obtain ⟨t1, t2, t3, t4⟩ := hSw; go_simp; try with_reducible rfl
          show wpAnyH _ _ _ _ _ _ _ (Act.put _ (some 66) _) _
          simp only [Act.put, List.setIfInBounds_toArray, List.set_cons_succ, List.set_cons_zero]
          refine wpAnyH_take (i := 13) (v := .bool true) rfl (by kernel_rfl) (by kernel_rfl) (by kernel_rfl) (fun _ _ _ h => h) (Or.inl ⟨by rfl, ?hy⟩) hHeld ?_
          case hy => intro w hSw; obtain ⟨t1, t2, t3, t4⟩ := hSw; have t5 := HB7.out; go_simp; try with_reducible rfl
          show wpAnyH _ _ _ _ _ _ _ (Act.put _ (some 67) _) _
          simp only [Act.put, List.setIfInBounds_toArray, List.set_cons_succ, List.set_cons_zero]
          refine wpAnyH_take (i := 14) (v := .bool true) rfl (by kernel_rfl) (by kernel_rfl) (by kernel_rfl) (fun _ _ _ h => h) (Or.inl ⟨by rfl, ?hy⟩) hHeld ?_
          case hy => intro w hSw; obtain ⟨t1, t2, t3, t4⟩ := hSw; go_simp; try with_reducible rfl
          show wpAnyH _ _ _ _ _ _ _ (Act.put _ (some 68) _) _
          simp only [Act.put, List.setIfInBounds_toArray, List.set_cons_succ, List.set_cons_zero]
          refine wpAnyH_ready (rs := [15]) (by kernel_rfl) (by simp) ?_
          refine AllReadyH.cons rfl (fun K hK => ?_) AllReadyH.nil
          go_simp
          refine (DN.out _ (Mods.drew _ _)).mono ?_
          rintro e w6 ⟨rfl, F6, A6, g6⟩
          have n6 : ¬ (F5 h0 ∨ h0 = g) ∧ ¬ (F5 h1 ∨ h1 = g) := ⟨fun h => h.elim (fun h => (HF5.out _ h).1 rfl) (fun h => HNG.out.1 h.symm), fun h => h.elim (fun h => (HF5.out _ h).2 rfl) (fun h => HNG.out.2 h.symm)⟩
          have g6' := (GG.new g (Mods.drew (fun _ => False) w5)).trans g6.out
          have s1 := g6'.mods.cell c05 n6.1
          have s2 := g6'.mods.cell c5 n6.2
          have s3 : w6.cell? ⟨g, 85, none⟩ = some (.int .u64 b5) := by rw [A6.out.bl.cell 85, HY.out]; exact (A5.out.bl.cell 85).symm.trans v5
          have s4 : w6.cell? ⟨g, 87, none⟩ = some (.int .u64 b7) := by rw [A6.out.bl.cell 87, HY.out]; exact (A5.out.bl.cell 87).symm.trans v7
          have G6 := hid (G5.out.trans g6')
          clear DN g6 g6' n6
          go_simp
          refine hK.out _ _ ⟨s1, s2, s3, s4⟩ (fun hHeld2 => ?_)
          clear hK K hHeld hHeld2 s1 s2 s3 s4 c05 c5 v5 v7
          refine wpAnyH_done (by kernel_rfl) ?_ _
          have C := hid (A6.out.fixed K5.out [0] 23 (by decide) (by decide) (by decide) (by decide))
          rw [← E6.out] at C
          go_wp2_with fail
          refine C.out.mono ?_
          rintro e w7 ⟨rfl, F7, A7, g7⟩
          have G7 := hid (G6.out.trans g7.out); clear C g7
          go_wp2
          go_end0
          rw [HEND.out]
          exact ⟨⟨rfl, F7, A7, G7⟩, K6.out.mono (by decide)⟩
        · have h7' : (q.1 == b7) = false := by simpa using h7
          have HB5 := hid h5'; have HB7 := hid h7'
          clear h5 h7 h5' h7'
          have HY : Hid (y5 = pMust false (q.2, y3.2)) := by show y5 = _; rw [E5.out, HOK.out, HB5.out, HB7.out]; rfl
          have DN := hid (fun w' (hm : Mods (fun _ => False) w5 w') => (A5.out.keep hm).must false)
          rw [← HY.out] at DN
          clear DM
          go_upto_region 8 with fail
          refine wp_region_held_drew (S := fun w' => w'.cell? ⟨h0, 0, none⟩ = some (.int .u64 r.1) ∧ w'.cell? ⟨h1, 0, none⟩ = some (.int .u64 q.1) ∧ w'.cell? ⟨g, 85, none⟩ = some (.int .u64 b5) ∧ w'.cell? ⟨g, 87, none⟩ = some (.int .u64 b7)) (by kernel_rfl) ⟨c05, c5, v5, v7⟩ (fun hHeld => ?_)
          refine wpAnyH_take (i := 0) (v := .pointer (some ⟨c, 0, none⟩)) rfl (by kernel_rfl) (by kernel_rfl) (by kernel_rfl) (fun _ _ _ h => h) (Or.inl ⟨by rfl, ?hy⟩) hHeld ?_
          case hy => intro w hSw; obtain ⟨t1, t2, t3, t4⟩ := hSw; go_simp; try with_reducible rfl
          show wpAnyH _ _ _ _ _ _ _ (Act.put _ (some 54) _) _
          simp only [Act.put, List.setIfInBounds_toArray, List.set_cons_succ, List.set_cons_zero]
          refine wpAnyH_take (i := 1) (v := .int .u64 r.1) rfl (by kernel_rfl) (by kernel_rfl) (by kernel_rfl) (fun _ _ _ h => h) (Or.inl ⟨by rfl, ?hy⟩) hHeld ?_
          case hy => intro w hSw; obtain ⟨t1, t2, t3, t4⟩ := hSw; go_simp; try with_reducible rfl
          show wpAnyH _ _ _ _ _ _ _ (Act.put _ (some 55) _) _
          simp only [Act.put, List.setIfInBounds_toArray, List.set_cons_succ, List.set_cons_zero]
          refine wpAnyH_take (i := 2) (v := .pointer (some ⟨g, 0, none⟩)) rfl (by kernel_rfl) (by kernel_rfl) (by kernel_rfl) (fun _ _ _ h => h) (Or.inl ⟨by rfl, ?hy⟩) hHeld ?_
          case hy => intro w hSw; obtain ⟨t1, t2, t3, t4⟩ := hSw; go_simp; try with_reducible rfl
          show wpAnyH _ _ _ _ _ _ _ (Act.put _ (some 56) _) _
          simp only [Act.put, List.setIfInBounds_toArray, List.set_cons_succ, List.set_cons_zero]
          refine wpAnyH_take (i := 3) (v := .pointer (some ⟨g, 0, none⟩)) rfl (by kernel_rfl) (by kernel_rfl) (by kernel_rfl) (fun _ _ _ h => h) (Or.inl ⟨by rfl, ?hy⟩) hHeld ?_
          case hy => intro w hSw; obtain ⟨t1, t2, t3, t4⟩ := hSw; go_simp; try with_reducible rfl
          show wpAnyH _ _ _ _ _ _ _ (Act.put _ (some 57) _) _
          simp only [Act.put, List.setIfInBounds_toArray, List.set_cons_succ, List.set_cons_zero]
          refine wpAnyH_take (i := 4) (v := .pointer (some ⟨g, 85, none⟩)) rfl (by kernel_rfl) (by kernel_rfl) (by kernel_rfl) (fun _ _ _ h => h) (Or.inl ⟨by rfl, ?hy⟩) hHeld ?_
          case hy => intro w hSw; obtain ⟨t1, t2, t3, t4⟩ := hSw; go_simp; try with_reducible rfl
          show wpAnyH _ _ _ _ _ _ _ (Act.put _ (some 58) _) _
          simp only [Act.put, List.setIfInBounds_toArray, List.set_cons_succ, List.set_cons_zero]
          refine wpAnyH_take (i := 5) (v := .int .u64 b5) rfl (by kernel_rfl) (by kernel_rfl) (by kernel_rfl) (fun _ _ _ h => h) (Or.inl ⟨by rfl, ?hy⟩) hHeld ?_
          case hy => intro w hSw; obtain ⟨t1, t2, t3, t4⟩ := hSw; go_simp; try with_reducible rfl
          show wpAnyH _ _ _ _ _ _ _ (Act.put _ (some 59) _) _
          simp only [Act.put, List.setIfInBounds_toArray, List.set_cons_succ, List.set_cons_zero]
          refine wpAnyH_take (i := 6) (v := .bool true) rfl (by kernel_rfl) (by kernel_rfl) (by kernel_rfl) (fun _ _ _ h => h) (Or.inl ⟨by rfl, ?hy⟩) hHeld ?_
          case hy => intro w hSw; obtain ⟨t1, t2, t3, t4⟩ := hSw; have t5 := HB5.out; go_simp; try with_reducible rfl
          show wpAnyH _ _ _ _ _ _ _ (Act.put _ (some 60) _) _
          simp only [Act.put, List.setIfInBounds_toArray, List.set_cons_succ, List.set_cons_zero]
          refine wpAnyH_take (i := 7) (v := .bool true) rfl (by kernel_rfl) (by kernel_rfl) (by kernel_rfl) (fun _ _ _ h => h) (Or.inl ⟨by rfl, ?hy⟩) hHeld ?_
          case hy => intro w hSw; obtain ⟨t1, t2, t3, t4⟩ := hSw; go_simp; try with_reducible rfl
          show wpAnyH _ _ _ _ _ _ _ (Act.put _ (some 61) _) _
          simp only [Act.put, List.setIfInBounds_toArray, List.set_cons_succ, List.set_cons_zero]
          refine wpAnyH_take (i := 8) (v := .int .u64 q.1) rfl (by kernel_rfl) (by kernel_rfl) (by kernel_rfl) (fun _ _ _ h => h) (Or.inl ⟨by rfl, ?hy⟩) hHeld ?_
          case hy => intro w hSw; obtain ⟨t1, t2, t3, t4⟩ := hSw; go_simp; try with_reducible rfl
          show wpAnyH _ _ _ _ _ _ _ (Act.put _ (some 62) _) _
          simp only [Act.put, List.setIfInBounds_toArray, List.set_cons_succ, List.set_cons_zero]
          refine wpAnyH_take (i := 9) (v := .pointer (some ⟨g, 0, none⟩)) rfl (by kernel_rfl) (by kernel_rfl) (by kernel_rfl) (fun _ _ _ h => h) (Or.inl ⟨by rfl, ?hy⟩) hHeld ?_
          case hy => intro w hSw; obtain ⟨t1, t2, t3, t4⟩ := hSw; go_simp; try with_reducible rfl
          show wpAnyH _ _ _ _ _ _ _ (Act.put _ (some 63) _) _
          simp only [Act.put, List.setIfInBounds_toArray, List.set_cons_succ, List.set_cons_zero]
          refine wpAnyH_take (i := 10) (v := .pointer (some ⟨g, 0, none⟩)) rfl (by kernel_rfl) (by kernel_rfl) (by kernel_rfl) (fun _ _ _ h => h) (Or.inl ⟨by rfl, ?hy⟩) hHeld ?_
          case hy => intro w hSw; obtain ⟨t1, t2, t3, t4⟩ := hSw; go_simp; try with_reducible rfl
          show wpAnyH _ _ _ _ _ _ _ (Act.put _ (some 64) _) _
          simp only [Act.put, List.setIfInBounds_toArray, List.set_cons_succ, List.set_cons_zero]
          refine wpAnyH_take (i := 11) (v := .pointer (some ⟨g, 87, none⟩)) rfl (by kernel_rfl) (by kernel_rfl) (by kernel_rfl) (fun _ _ _ h => h) (Or.inl ⟨by rfl, ?hy⟩) hHeld ?_
          case hy => intro w hSw; obtain ⟨t1, t2, t3, t4⟩ := hSw; go_simp; try with_reducible rfl
          show wpAnyH _ _ _ _ _ _ _ (Act.put _ (some 65) _) _
          simp only [Act.put, List.setIfInBounds_toArray, List.set_cons_succ, List.set_cons_zero]
          refine wpAnyH_take (i := 12) (v := .int .u64 b7) rfl (by kernel_rfl) (by kernel_rfl) (by kernel_rfl) (fun _ _ _ h => h) (Or.inl ⟨by rfl, ?hy⟩) hHeld ?_
          case hy => intro w hSw; obtain ⟨t1, t2, t3, t4⟩ := hSw; go_simp; try with_reducible rfl
          show wpAnyH _ _ _ _ _ _ _ (Act.put _ (some 66) _) _
          simp only [Act.put, List.setIfInBounds_toArray, List.set_cons_succ, List.set_cons_zero]
          refine wpAnyH_take (i := 13) (v := .bool false) rfl (by kernel_rfl) (by kernel_rfl) (by kernel_rfl) (fun _ _ _ h => h) (Or.inl ⟨by rfl, ?hy⟩) hHeld ?_
          case hy => intro w hSw; obtain ⟨t1, t2, t3, t4⟩ := hSw; have t5 := HB7.out; go_simp; try with_reducible rfl
          show wpAnyH _ _ _ _ _ _ _ (Act.put _ (some 67) _) _
          simp only [Act.put, List.setIfInBounds_toArray, List.set_cons_succ, List.set_cons_zero]
          refine wpAnyH_take (i := 14) (v := .bool false) rfl (by kernel_rfl) (by kernel_rfl) (by kernel_rfl) (fun _ _ _ h => h) (Or.inl ⟨by rfl, ?hy⟩) hHeld ?_
          case hy => intro w hSw; obtain ⟨t1, t2, t3, t4⟩ := hSw; go_simp; try with_reducible rfl
          show wpAnyH _ _ _ _ _ _ _ (Act.put _ (some 68) _) _
          simp only [Act.put, List.setIfInBounds_toArray, List.set_cons_succ, List.set_cons_zero]
          refine wpAnyH_ready (rs := [15]) (by kernel_rfl) (by simp) ?_
          refine AllReadyH.cons rfl (fun K hK => ?_) AllReadyH.nil
          go_simp
          refine (DN.out _ (Mods.drew _ _)).mono ?_
          rintro e w6 ⟨rfl, F6, A6, g6⟩
          have n6 : ¬ (F5 h0 ∨ h0 = g) ∧ ¬ (F5 h1 ∨ h1 = g) := ⟨fun h => h.elim (fun h => (HF5.out _ h).1 rfl) (fun h => HNG.out.1 h.symm), fun h => h.elim (fun h => (HF5.out _ h).2 rfl) (fun h => HNG.out.2 h.symm)⟩
          have g6' := (GG.new g (Mods.drew (fun _ => False) w5)).trans g6.out
          have s1 := g6'.mods.cell c05 n6.1
          have s2 := g6'.mods.cell c5 n6.2
          have s3 : w6.cell? ⟨g, 85, none⟩ = some (.int .u64 b5) := by rw [A6.out.bl.cell 85, HY.out]; exact (A5.out.bl.cell 85).symm.trans v5
          have s4 : w6.cell? ⟨g, 87, none⟩ = some (.int .u64 b7) := by rw [A6.out.bl.cell 87, HY.out]; exact (A5.out.bl.cell 87).symm.trans v7
          have G6 := hid (G5.out.trans g6')
          clear DN g6 g6' n6
          go_simp
          refine hK.out _ _ ⟨s1, s2, s3, s4⟩ (fun hHeld2 => ?_)
          clear hK K hHeld hHeld2 s1 s2 s3 s4 c05 c5 v5 v7
          refine wpAnyH_done (by kernel_rfl) ?_ _
          have C := hid (A6.out.fixed K5.out [0] 23 (by decide) (by decide) (by decide) (by decide))
          rw [← E6.out] at C
          go_wp2_with fail
          refine C.out.mono ?_
          rintro e w7 ⟨rfl, F7, A7, g7⟩
          have G7 := hid (G6.out.trans g7.out); clear C g7
          go_wp2
          go_end0
          rw [HEND.out]
          exact ⟨⟨rfl, F7, A7, G7⟩, K6.out.mono (by decide)⟩
      · have h5' : (r.1 == b5) = false := by simpa using h5
        have HB5 := hid h5'
        clear h5 h5'
        have HY : Hid (y5 = pMust false (q.2, y3.2)) := by show y5 = _; rw [E5.out, HOK.out, HB5.out]; rfl
        have DN := hid (fun w' (hm : Mods (fun _ => False) w5 w') => (A5.out.keep hm).must false)
        rw [← HY.out] at DN
        clear DM
        go_upto_region 8 with fail
        refine wp_region_held_drew (S := fun w' => w'.cell? ⟨h0, 0, none⟩ = some (.int .u64 r.1) ∧ w'.cell? ⟨h1, 0, none⟩ = some (.int .u64 q.1) ∧ w'.cell? ⟨g, 85, none⟩ = some (.int .u64 b5) ∧ w'.cell? ⟨g, 87, none⟩ = some (.int .u64 b7)) (by kernel_rfl) ⟨c05, c5, v5, v7⟩ (fun hHeld => ?_)
        refine wpAnyH_take (i := 0) (v := .pointer (some ⟨c, 0, none⟩)) rfl (by kernel_rfl) (by kernel_rfl) (by kernel_rfl) (fun _ _ _ h => h) (Or.inl ⟨by rfl, ?hy⟩) hHeld ?_
        case hy => intro w hSw; obtain ⟨t1, t2, t3, t4⟩ := hSw; go_simp; try with_reducible rfl
        show wpAnyH _ _ _ _ _ _ _ (Act.put _ (some 54) _) _
        simp only [Act.put, List.setIfInBounds_toArray, List.set_cons_succ, List.set_cons_zero]
        refine wpAnyH_take (i := 1) (v := .int .u64 r.1) rfl (by kernel_rfl) (by kernel_rfl) (by kernel_rfl) (fun _ _ _ h => h) (Or.inl ⟨by rfl, ?hy⟩) hHeld ?_
        case hy => intro w hSw; obtain ⟨t1, t2, t3, t4⟩ := hSw; go_simp; try with_reducible rfl
        show wpAnyH _ _ _ _ _ _ _ (Act.put _ (some 55) _) _
        simp only [Act.put, List.setIfInBounds_toArray, List.set_cons_succ, List.set_cons_zero]
        refine wpAnyH_take (i := 2) (v := .pointer (some ⟨g, 0, none⟩)) rfl (by kernel_rfl) (by kernel_rfl) (by kernel_rfl) (fun _ _ _ h => h) (Or.inl ⟨by rfl, ?hy⟩) hHeld ?_
        case hy => intro w hSw; obtain ⟨t1, t2, t3, t4⟩ := hSw; go_simp; try with_reducible rfl
        show wpAnyH _ _ _ _ _ _ _ (Act.put _ (some 56) _) _
        simp only [Act.put, List.setIfInBounds_toArray, List.set_cons_succ, List.set_cons_zero]
        refine wpAnyH_take (i := 3) (v := .pointer (some ⟨g, 0, none⟩)) rfl (by kernel_rfl) (by kernel_rfl) (by kernel_rfl) (fun _ _ _ h => h) (Or.inl ⟨by rfl, ?hy⟩) hHeld ?_
        case hy => intro w hSw; obtain ⟨t1, t2, t3, t4⟩ := hSw; go_simp; try with_reducible rfl
        show wpAnyH _ _ _ _ _ _ _ (Act.put _ (some 57) _) _
        simp only [Act.put, List.setIfInBounds_toArray, List.set_cons_succ, List.set_cons_zero]
        refine wpAnyH_take (i := 4) (v := .pointer (some ⟨g, 85, none⟩)) rfl (by kernel_rfl) (by kernel_rfl) (by kernel_rfl) (fun _ _ _ h => h) (Or.inl ⟨by rfl, ?hy⟩) hHeld ?_
        case hy => intro w hSw; obtain ⟨t1, t2, t3, t4⟩ := hSw; go_simp; try with_reducible rfl
        show wpAnyH _ _ _ _ _ _ _ (Act.put _ (some 58) _) _
        simp only [Act.put, List.setIfInBounds_toArray, List.set_cons_succ, List.set_cons_zero]
        refine wpAnyH_take (i := 5) (v := .int .u64 b5) rfl (by kernel_rfl) (by kernel_rfl) (by kernel_rfl) (fun _ _ _ h => h) (Or.inl ⟨by rfl, ?hy⟩) hHeld ?_
        case hy => intro w hSw; obtain ⟨t1, t2, t3, t4⟩ := hSw; go_simp; try with_reducible rfl
        show wpAnyH _ _ _ _ _ _ _ (Act.put _ (some 59) _) _
        simp only [Act.put, List.setIfInBounds_toArray, List.set_cons_succ, List.set_cons_zero]
        refine wpAnyH_take (i := 6) (v := .bool false) rfl (by kernel_rfl) (by kernel_rfl) (by kernel_rfl) (fun _ _ _ h => h) (Or.inl ⟨by rfl, ?hy⟩) hHeld ?_
        case hy => intro w hSw; obtain ⟨t1, t2, t3, t4⟩ := hSw; have t5 := HB5.out; go_simp; try with_reducible rfl
        show wpAnyH _ _ _ _ _ _ _ (Act.put _ (some 60) _) _
        simp only [Act.put, List.setIfInBounds_toArray, List.set_cons_succ, List.set_cons_zero]
        refine wpAnyH_take (i := 7) (v := .bool false) rfl (by kernel_rfl) (by kernel_rfl) (by kernel_rfl) (fun _ _ _ h => h) (Or.inl ⟨by rfl, ?hy⟩) hHeld ?_
        case hy => intro w hSw; obtain ⟨t1, t2, t3, t4⟩ := hSw; go_simp; try with_reducible rfl
        show wpAnyH _ _ _ _ _ _ _ (Act.put _ (some 61) _) _
        simp only [Act.put, List.setIfInBounds_toArray, List.set_cons_succ, List.set_cons_zero]
        refine wpAnyH_take (i := 8) (v := undef) rfl (by kernel_rfl) (by kernel_rfl) (by kernel_rfl) (fun _ _ _ h => h) (Or.inr ⟨rfl, rfl⟩) hHeld ?_
        show wpAnyH _ _ _ _ _ _ _ (Act.put _ (some 62) _) _
        simp only [Act.put, List.setIfInBounds_toArray, List.set_cons_succ, List.set_cons_zero]
        refine wpAnyH_take (i := 9) (v := undef) rfl (by kernel_rfl) (by kernel_rfl) (by kernel_rfl) (fun _ _ _ h => h) (Or.inr ⟨rfl, rfl⟩) hHeld ?_
        show wpAnyH _ _ _ _ _ _ _ (Act.put _ (some 63) _) _
        simp only [Act.put, List.setIfInBounds_toArray, List.set_cons_succ, List.set_cons_zero]
        refine wpAnyH_take (i := 10) (v := undef) rfl (by kernel_rfl) (by kernel_rfl) (by kernel_rfl) (fun _ _ _ h => h) (Or.inr ⟨rfl, rfl⟩) hHeld ?_
        show wpAnyH _ _ _ _ _ _ _ (Act.put _ (some 64) _) _
        simp only [Act.put, List.setIfInBounds_toArray, List.set_cons_succ, List.set_cons_zero]
        refine wpAnyH_take (i := 11) (v := undef) rfl (by kernel_rfl) (by kernel_rfl) (by kernel_rfl) (fun _ _ _ h => h) (Or.inr ⟨rfl, rfl⟩) hHeld ?_
        show wpAnyH _ _ _ _ _ _ _ (Act.put _ (some 65) _) _
        simp only [Act.put, List.setIfInBounds_toArray, List.set_cons_succ, List.set_cons_zero]
        refine wpAnyH_take (i := 12) (v := undef) rfl (by kernel_rfl) (by kernel_rfl) (by kernel_rfl) (fun _ _ _ h => h) (Or.inr ⟨rfl, rfl⟩) hHeld ?_
        show wpAnyH _ _ _ _ _ _ _ (Act.put _ (some 66) _) _
        simp only [Act.put, List.setIfInBounds_toArray, List.set_cons_succ, List.set_cons_zero]
        refine wpAnyH_take (i := 13) (v := undef) rfl (by kernel_rfl) (by kernel_rfl) (by kernel_rfl) (fun _ _ _ h => h) (Or.inr ⟨rfl, rfl⟩) hHeld ?_
        show wpAnyH _ _ _ _ _ _ _ (Act.put _ (some 67) _) _
        simp only [Act.put, List.setIfInBounds_toArray, List.set_cons_succ, List.set_cons_zero]
        refine wpAnyH_take (i := 14) (v := .bool false) rfl (by kernel_rfl) (by kernel_rfl) (by kernel_rfl) (fun _ _ _ h => h) (Or.inl ⟨by rfl, ?hy⟩) hHeld ?_
        case hy => intro w hSw; obtain ⟨t1, t2, t3, t4⟩ := hSw; go_simp; try with_reducible rfl
        show wpAnyH _ _ _ _ _ _ _ (Act.put _ (some 68) _) _
        simp only [Act.put, List.setIfInBounds_toArray, List.set_cons_succ, List.set_cons_zero]
        refine wpAnyH_ready (rs := [15]) (by kernel_rfl) (by simp) ?_
        refine AllReadyH.cons rfl (fun K hK => ?_) AllReadyH.nil
        go_simp
        refine (DN.out _ (Mods.drew _ _)).mono ?_
        rintro e w6 ⟨rfl, F6, A6, g6⟩
        have n6 : ¬ (F5 h0 ∨ h0 = g) ∧ ¬ (F5 h1 ∨ h1 = g) := ⟨fun h => h.elim (fun h => (HF5.out _ h).1 rfl) (fun h => HNG.out.1 h.symm), fun h => h.elim (fun h => (HF5.out _ h).2 rfl) (fun h => HNG.out.2 h.symm)⟩
        have g6' := (GG.new g (Mods.drew (fun _ => False) w5)).trans g6.out
        have s1 := g6'.mods.cell c05 n6.1
        have s2 := g6'.mods.cell c5 n6.2
        have s3 : w6.cell? ⟨g, 85, none⟩ = some (.int .u64 b5) := by rw [A6.out.bl.cell 85, HY.out]; exact (A5.out.bl.cell 85).symm.trans v5
        have s4 : w6.cell? ⟨g, 87, none⟩ = some (.int .u64 b7) := by rw [A6.out.bl.cell 87, HY.out]; exact (A5.out.bl.cell 87).symm.trans v7
        have G6 := hid (G5.out.trans g6')
        clear DN g6 g6' n6
        go_simp
        refine hK.out _ _ ⟨s1, s2, s3, s4⟩ (fun hHeld2 => ?_)
        clear hK K hHeld hHeld2 s1 s2 s3 s4 c05 c5 v5 v7
        refine wpAnyH_done (by kernel_rfl) ?_ _
        have C := hid (A6.out.fixed K5.out [0] 23 (by decide) (by decide) (by decide) (by decide))
        rw [← E6.out] at C
        go_wp2_with fail
        refine C.out.mono ?_
        rintro e w7 ⟨rfl, F7, A7, g7⟩
        have G7 := hid (G6.out.trans g7.out); clear C g7
        go_wp2
        go_end0
        rw [HEND.out]
        exact ⟨⟨rfl, F7, A7, G7⟩, K6.out.mono (by decide)⟩

end Go.Proofs.Ytanknjpcgceccaa
