/- The reference's Out: more. (Printed by wip/tools/gen_ro5.py.) -/
import Derived.Test.YtanknjpcgceccaaRo4
import Derived.Test.YtanknjpcgceccaaGen11
namespace Go.Proofs.Ytanknjpcgceccaa
open Go.RowKit

def oMore (p : Int) (a : ArgsV) (s : St) : St :=
  if p = 8 then (if a.mode = 2 then oU64 a.verf (oNumber 0 2 a.mode s) else oSet a.set (oNumber 0 2 a.mode s))
  else if p = 9 then oSet a.set s
  else if p = 10 then oText 1024 a.path (oSet a.set s)
  else if p = 11 then (if a.type = 3 ∨ a.type = 4 then oU32 a.spec2 (oU32 a.spec1 (oSet a.set (oNumber 1 7 a.type s))) else if a.type = 6 ∨ a.type = 7 then oSet a.set (oNumber 1 7 a.type s) else oNumber 1 7 a.type s)
  else if p = 14 ∨ p = 15 then oText 255 a.toName (oText 64 a.to s)
  else if p = 16 then oU32 a.count (oU64 a.cookieVerf (oU64 a.cookie s))
  else if p = 17 then oU32 a.maxCount (oU32 a.dirCount (oU64 a.cookieVerf (oU64 a.cookie s)))
  else s

theorem ArgsV.good_set {a : ArgsV} (h : a.good) : a.set.good := h.1
theorem ArgsV.good_guardTime {a : ArgsV} (h : a.good) : a.guardTime.good := h.2.1
theorem ArgsV.good_access {a : ArgsV} (h : a.good) : 0 ≤ a.access ∧ a.access < 4294967296 := h.2.2.1
theorem ArgsV.good_offset {a : ArgsV} (h : a.good) : 0 ≤ a.offset ∧ a.offset < 18446744073709551616 := h.2.2.2.1
theorem ArgsV.good_count {a : ArgsV} (h : a.good) : 0 ≤ a.count ∧ a.count < 4294967296 := h.2.2.2.2.1
theorem ArgsV.good_verf {a : ArgsV} (h : a.good) : 0 ≤ a.verf ∧ a.verf < 18446744073709551616 := h.2.2.2.2.2.2.2.2.1
theorem ArgsV.good_cookie {a : ArgsV} (h : a.good) : 0 ≤ a.cookie ∧ a.cookie < 18446744073709551616 := h.2.2.2.2.2.2.2.2.2.1
theorem ArgsV.good_cookieVerf {a : ArgsV} (h : a.good) : 0 ≤ a.cookieVerf ∧ a.cookieVerf < 18446744073709551616 := h.2.2.2.2.2.2.2.2.2.2.1
theorem ArgsV.good_dirCount {a : ArgsV} (h : a.good) : 0 ≤ a.dirCount ∧ a.dirCount < 4294967296 := h.2.2.2.2.2.2.2.2.2.2.2.1
theorem ArgsV.good_maxCount {a : ArgsV} (h : a.good) : 0 ≤ a.maxCount ∧ a.maxCount < 4294967296 := h.2.2.2.2.2.2.2.2.2.2.2.2.1
theorem ArgsV.good_spec1 {a : ArgsV} (h : a.good) : 0 ≤ a.spec1 ∧ a.spec1 < 4294967296 := h.2.2.2.2.2.2.2.2.2.2.2.2.2.1
theorem ArgsV.good_spec2 {a : ArgsV} (h : a.good) : 0 ≤ a.spec2 ∧ a.spec2 < 4294967296 := h.2.2.2.2.2.2.2.2.2.2.2.2.2.2
/-- No more than may be written. -/
def ArgsV.len (a : ArgsV) : Nat := a.file.length + a.to.length + a.name.length + a.toName.length + a.path.length + a.data.length

set_option maxRecDepth 100000 in
set_option maxHeartbeats 4000000 in
theorem more_out_8 (c p : Nat) (F : Nat → Prop) (g : Nat) (x : X) (a : ArgsV) (dv : Value) (w : World) (h : OAt w c p F g x) (hs : x.1.size + a.len + 300 ≤ 1000000) (hg : a.good) :
    Calls Try.prog 45 #[.pointer (some ⟨c, 0, none⟩), .int .i64 8, .agg (a.cells dv).toArray] w (OQ w c p F g (oMore 8 a x.1, x.2)) := by
  have HG := hid hg; clear hg
  obtain ⟨A, hAe⟩ : ∃ A, A = (a.cells dv).toArray := ⟨_, rfl⟩
  rw [← hAe]
  have hA1 : A[0]? = some (.string (str a.file)) := by rw [hAe]; rfl
  have HA := hid hAe
  clear hAe
  obtain ⟨B, hB⟩ : ∃ B : Cells, B = fun j => (a.cells dv)[j]? := ⟨_, rfl⟩
  have HB := hid hB; clear hB
  obtain ⟨s0, hs0⟩ : ∃ s0, s0 = x.1 := ⟨_, rfl⟩
  have HN : Hid (s0.size + a.len + 300 ≤ 1000000) := by rw [hs0]; exact hs
  have HFW : Hid (a.path.length + a.to.length + a.toName.length ≤ a.len) := by show _ ≤ _; unfold ArgsV.len; omega
  have H := hid h; have HS0 := hid hs0
  clear h hs hs0
  go_enter Try.func45, Try.ntmps45
  go_upto_region 1 with fail
  have hm0 : Mods (fun _ => False) w (w.alloc (.cells A 30)) := Mods.alloc _ _ _
  have hbl : Blk (w.alloc (.cells A 30)) w.heap.size B := (Blk.new w A _).congr (by funext j; rw [HA.out, HB.out]; simp)
  have h1 : OAt (w.alloc (.cells A 30)) c p F w.heap.size (s0, B) := ⟨by rw [HS0.out]; exact H.out.co.keep hm0 fun _ _ h => h, hbl, fun hf => by have := H.out.co.lt _ hf; omega⟩
  generalize w.alloc (.cells A 30) = w0 at hm0 h1 ⊢
  have HM0 := hid hm0
  have A0 := hid h1
  obtain ⟨gb, hgb⟩ : ∃ gb, gb = w.heap.size := ⟨_, rfl⟩
  rw [← hgb] at A0 ⊢
  have HG1 := hid hgb
  obtain ⟨F0, hF0⟩ : ∃ F0, F0 = F := ⟨_, rfl⟩
  rw [← hF0] at A0
  have HF0 := hid hF0
  have G0 : Hid (GG w0 F0 gb w0 F0) := GG.refl _ _ _
  have BC : ∀ j, B j = (a.cells dv)[j]? := fun j => by rw [HB.out]
  have HBC := hid BC
  clear hm0 hbl h1 hA1 hgb hF0 BC
  obtain ⟨s1, e1⟩ : ∃ z, z = oNumber 0 2 a.mode s0 := ⟨_, rfl⟩
  have K1 : Hid (s1.size ≤ s0.size + 4) := by have h1 : s1.size ≤ s0.size + 4 := (by rw [e1]; exact size_oNumber _ _ _ _); exact h1
  have E1 := hid e1; clear e1
  have D := hid (upto_out c p F0 gb _ a.mode 0 2 w0 A0.out (by  have := HN.out; have := HFW.out; simp only; omega))
  have hc0 : w0.cell? ⟨gb, 26, none⟩ = some (.int .i64 a.mode) := (A0.out.bl.cell 26).trans (HBC.out 26)
  go_wp2_with fail
  refine D.out.mono ?_
  rintro e w1 ⟨rfl, F1, A1, g1⟩
  clear D hc0
  replace A1 : Hid (OAt w1 c p F1 gb (s1, B)) := by rw [E1.out]; exact A1
  have G1 := hid (G0.out.trans g1.out); clear g1
  have hc0 : w1.cell? ⟨gb, 26, none⟩ = some (.int .i64 a.mode) := (A1.out.bl.cell 26).trans (HBC.out 26)
  by_cases hbb : a.mode = 2
  · have hb2 : (a.mode == 2) = true := by simpa using hbb
    have HBB := hid hbb; clear hbb
    obtain ⟨s2, e2⟩ : ∃ z, z = oU64 a.verf s1 := ⟨_, rfl⟩
    have K2 : Hid (s2.size ≤ s1.size + 8) := by have h1 : s2.size ≤ s1.size + 8 := (by rw [e2]; exact size_oU64 _ _); exact h1
    have E2 := hid e2; clear e2
    go_upto_region 5 with fail
    refine OAt.put7 A1.out (wr_u64 (v := a.verf) (by have := K1.out; have := HN.out; have := HFW.out; simp only; omega) (ArgsV.good_verf HG.out) p) (fun _ _ _ _ _ h => h) rfl (by kernel_rfl) (n := 144) rfl rfl rfl (by decide) enter_u64 (o := 29) (fun w => by go_simp) (fun w => load_u64 w _ _ _) (HBC.out 29) (fun F2 w2 A2 g2 => ?_)
    simp only [Act.put, List.setIfInBounds_toArray, List.set_cons_succ, List.set_cons_zero]
    replace A2 : Hid (OAt w2 c p F2 gb (s2, B)) := by rw [E2.out]; exact A2
    have G2 := hid (G1.out.trans g2.out); clear g2
    clear hb2 hc0
    go_wp2
    go_end0
    have h2 := H.out.other HM0.out (Nat.le_of_eq HG1.out.symm) A2.out (by rw [← HF0.out]; exact G2.out)
    have hend : oMore 8 a x.1 = s2 := by rw [E2.out, E1.out, ← HS0.out]; simp [oMore, HBB.out]
    rw [hend]
    exact ⟨rfl, F2, h2.1, h2.2⟩
  · have hb2 : (a.mode == 2) = false := by simpa using hbb
    have HBB := hid hbb; clear hbb
    go_upto_region 6 with fail
    clear hc0 hb2
    obtain ⟨s2, e2⟩ : ∃ z, z = oSet a.set s1 := ⟨_, rfl⟩
    have K2 : Hid (s2.size ≤ s1.size + 60) := by have h1 : s2.size ≤ s1.size + 60 := (by rw [e2]; exact size_oSet _ _); exact h1
    have E2 := hid e2; clear e2
    have D := hid (set_out c p F1 gb _ a.set w1 A1.out (by have := K1.out; have := HN.out; have := HFW.out; simp only; omega) (ArgsV.good_set HG.out))
    have hc0 : w1.cell? ⟨gb, 5, none⟩ = some (.bool a.set.hasMode) := (A1.out.bl.cell 5).trans (HBC.out 5)
    have hc1 : w1.cell? ⟨gb, 6, none⟩ = some (.bool a.set.hasUid) := (A1.out.bl.cell 6).trans (HBC.out 6)
    have hc2 : w1.cell? ⟨gb, 7, none⟩ = some (.bool a.set.hasGid) := (A1.out.bl.cell 7).trans (HBC.out 7)
    have hc3 : w1.cell? ⟨gb, 8, none⟩ = some (.bool a.set.hasSize) := (A1.out.bl.cell 8).trans (HBC.out 8)
    have hc4 : w1.cell? ⟨gb, 9, none⟩ = some (.int .i64 a.set.mode) := (A1.out.bl.cell 9).trans (HBC.out 9)
    have hc5 : w1.cell? ⟨gb, 10, none⟩ = some (.int .u32 a.set.uid) := (A1.out.bl.cell 10).trans (HBC.out 10)
    have hc6 : w1.cell? ⟨gb, 11, none⟩ = some (.int .u32 a.set.gid) := (A1.out.bl.cell 11).trans (HBC.out 11)
    have hc7 : w1.cell? ⟨gb, 12, none⟩ = some (.int .u64 a.set.size) := (A1.out.bl.cell 12).trans (HBC.out 12)
    have hc8 : w1.cell? ⟨gb, 13, none⟩ = some (.int .i64 a.set.atimeHow) := (A1.out.bl.cell 13).trans (HBC.out 13)
    have hc9 : w1.cell? ⟨gb, 14, none⟩ = some (.int .i64 a.set.mtimeHow) := (A1.out.bl.cell 14).trans (HBC.out 14)
    have hc10 : w1.cell? ⟨gb, 15, none⟩ = some (.int .u32 a.set.atime.sec) := (A1.out.bl.cell 15).trans (HBC.out 15)
    have hc11 : w1.cell? ⟨gb, 16, none⟩ = some (.int .u32 a.set.atime.nsec) := (A1.out.bl.cell 16).trans (HBC.out 16)
    have hc12 : w1.cell? ⟨gb, 17, none⟩ = some (.int .u32 a.set.mtime.sec) := (A1.out.bl.cell 17).trans (HBC.out 17)
    have hc13 : w1.cell? ⟨gb, 18, none⟩ = some (.int .u32 a.set.mtime.nsec) := (A1.out.bl.cell 18).trans (HBC.out 18)
    go_wp2_with fail
    refine D.out.mono ?_
    rintro e w2 ⟨rfl, F2, A2, g2⟩
    clear D hc0 hc1 hc2 hc3 hc4 hc5 hc6 hc7 hc8 hc9 hc10 hc11 hc12 hc13
    replace A2 : Hid (OAt w2 c p F2 gb (s2, B)) := by rw [E2.out]; exact A2
    have G2 := hid (G1.out.trans g2.out); clear g2
    go_wp2
    go_end0
    have h2 := H.out.other HM0.out (Nat.le_of_eq HG1.out.symm) A2.out (by rw [← HF0.out]; exact G2.out)
    have hend : oMore 8 a x.1 = s2 := by rw [E2.out, E1.out, ← HS0.out]; simp [oMore, HBB.out]
    rw [hend]
    exact ⟨rfl, F2, h2.1, h2.2⟩

set_option maxRecDepth 100000 in
set_option maxHeartbeats 4000000 in
theorem more_out_9 (c p : Nat) (F : Nat → Prop) (g : Nat) (x : X) (a : ArgsV) (dv : Value) (w : World) (h : OAt w c p F g x) (hs : x.1.size + a.len + 300 ≤ 1000000) (hg : a.good) :
    Calls Try.prog 45 #[.pointer (some ⟨c, 0, none⟩), .int .i64 9, .agg (a.cells dv).toArray] w (OQ w c p F g (oMore 9 a x.1, x.2)) := by
  have HG := hid hg; clear hg
  obtain ⟨A, hAe⟩ : ∃ A, A = (a.cells dv).toArray := ⟨_, rfl⟩
  rw [← hAe]
  have hA1 : A[0]? = some (.string (str a.file)) := by rw [hAe]; rfl
  have HA := hid hAe
  clear hAe
  obtain ⟨B, hB⟩ : ∃ B : Cells, B = fun j => (a.cells dv)[j]? := ⟨_, rfl⟩
  have HB := hid hB; clear hB
  obtain ⟨s0, hs0⟩ : ∃ s0, s0 = x.1 := ⟨_, rfl⟩
  have HN : Hid (s0.size + a.len + 300 ≤ 1000000) := by rw [hs0]; exact hs
  have HFW : Hid (a.path.length + a.to.length + a.toName.length ≤ a.len) := by show _ ≤ _; unfold ArgsV.len; omega
  have H := hid h; have HS0 := hid hs0
  clear h hs hs0
  go_enter Try.func45, Try.ntmps45
  go_upto_region 1 with fail
  have hm0 : Mods (fun _ => False) w (w.alloc (.cells A 30)) := Mods.alloc _ _ _
  have hbl : Blk (w.alloc (.cells A 30)) w.heap.size B := (Blk.new w A _).congr (by funext j; rw [HA.out, HB.out]; simp)
  have h1 : OAt (w.alloc (.cells A 30)) c p F w.heap.size (s0, B) := ⟨by rw [HS0.out]; exact H.out.co.keep hm0 fun _ _ h => h, hbl, fun hf => by have := H.out.co.lt _ hf; omega⟩
  generalize w.alloc (.cells A 30) = w0 at hm0 h1 ⊢
  have HM0 := hid hm0
  have A0 := hid h1
  obtain ⟨gb, hgb⟩ : ∃ gb, gb = w.heap.size := ⟨_, rfl⟩
  rw [← hgb] at A0 ⊢
  have HG1 := hid hgb
  obtain ⟨F0, hF0⟩ : ∃ F0, F0 = F := ⟨_, rfl⟩
  rw [← hF0] at A0
  have HF0 := hid hF0
  have G0 : Hid (GG w0 F0 gb w0 F0) := GG.refl _ _ _
  have BC : ∀ j, B j = (a.cells dv)[j]? := fun j => by rw [HB.out]
  have HBC := hid BC
  clear hm0 hbl h1 hA1 hgb hF0 BC
  obtain ⟨s1, e1⟩ : ∃ z, z = oSet a.set s0 := ⟨_, rfl⟩
  have K1 : Hid (s1.size ≤ s0.size + 60) := by have h1 : s1.size ≤ s0.size + 60 := (by rw [e1]; exact size_oSet _ _); exact h1
  have E1 := hid e1; clear e1
  have D := hid (set_out c p F0 gb _ a.set w0 A0.out (by  have := HN.out; have := HFW.out; simp only; omega) (ArgsV.good_set HG.out))
  have hc0 : w0.cell? ⟨gb, 5, none⟩ = some (.bool a.set.hasMode) := (A0.out.bl.cell 5).trans (HBC.out 5)
  have hc1 : w0.cell? ⟨gb, 6, none⟩ = some (.bool a.set.hasUid) := (A0.out.bl.cell 6).trans (HBC.out 6)
  have hc2 : w0.cell? ⟨gb, 7, none⟩ = some (.bool a.set.hasGid) := (A0.out.bl.cell 7).trans (HBC.out 7)
  have hc3 : w0.cell? ⟨gb, 8, none⟩ = some (.bool a.set.hasSize) := (A0.out.bl.cell 8).trans (HBC.out 8)
  have hc4 : w0.cell? ⟨gb, 9, none⟩ = some (.int .i64 a.set.mode) := (A0.out.bl.cell 9).trans (HBC.out 9)
  have hc5 : w0.cell? ⟨gb, 10, none⟩ = some (.int .u32 a.set.uid) := (A0.out.bl.cell 10).trans (HBC.out 10)
  have hc6 : w0.cell? ⟨gb, 11, none⟩ = some (.int .u32 a.set.gid) := (A0.out.bl.cell 11).trans (HBC.out 11)
  have hc7 : w0.cell? ⟨gb, 12, none⟩ = some (.int .u64 a.set.size) := (A0.out.bl.cell 12).trans (HBC.out 12)
  have hc8 : w0.cell? ⟨gb, 13, none⟩ = some (.int .i64 a.set.atimeHow) := (A0.out.bl.cell 13).trans (HBC.out 13)
  have hc9 : w0.cell? ⟨gb, 14, none⟩ = some (.int .i64 a.set.mtimeHow) := (A0.out.bl.cell 14).trans (HBC.out 14)
  have hc10 : w0.cell? ⟨gb, 15, none⟩ = some (.int .u32 a.set.atime.sec) := (A0.out.bl.cell 15).trans (HBC.out 15)
  have hc11 : w0.cell? ⟨gb, 16, none⟩ = some (.int .u32 a.set.atime.nsec) := (A0.out.bl.cell 16).trans (HBC.out 16)
  have hc12 : w0.cell? ⟨gb, 17, none⟩ = some (.int .u32 a.set.mtime.sec) := (A0.out.bl.cell 17).trans (HBC.out 17)
  have hc13 : w0.cell? ⟨gb, 18, none⟩ = some (.int .u32 a.set.mtime.nsec) := (A0.out.bl.cell 18).trans (HBC.out 18)
  go_wp2_with fail
  refine D.out.mono ?_
  rintro e w1 ⟨rfl, F1, A1, g1⟩
  clear D hc0 hc1 hc2 hc3 hc4 hc5 hc6 hc7 hc8 hc9 hc10 hc11 hc12 hc13
  replace A1 : Hid (OAt w1 c p F1 gb (s1, B)) := by rw [E1.out]; exact A1
  have G1 := hid (G0.out.trans g1.out); clear g1
  go_wp2
  go_end0
  have h2 := H.out.other HM0.out (Nat.le_of_eq HG1.out.symm) A1.out (by rw [← HF0.out]; exact G1.out)
  have hend : oMore 9 a x.1 = s1 := by rw [E1.out, ← HS0.out]; simp [oMore]
  rw [hend]
  exact ⟨rfl, F1, h2.1, h2.2⟩

set_option maxRecDepth 100000 in
set_option maxHeartbeats 4000000 in
theorem more_out_10 (c p : Nat) (F : Nat → Prop) (g : Nat) (x : X) (a : ArgsV) (dv : Value) (w : World) (h : OAt w c p F g x) (hs : x.1.size + a.len + 300 ≤ 1000000) (hg : a.good) :
    Calls Try.prog 45 #[.pointer (some ⟨c, 0, none⟩), .int .i64 10, .agg (a.cells dv).toArray] w (OQ w c p F g (oMore 10 a x.1, x.2)) := by
  have HG := hid hg; clear hg
  obtain ⟨A, hAe⟩ : ∃ A, A = (a.cells dv).toArray := ⟨_, rfl⟩
  rw [← hAe]
  have hA1 : A[0]? = some (.string (str a.file)) := by rw [hAe]; rfl
  have HA := hid hAe
  clear hAe
  obtain ⟨B, hB⟩ : ∃ B : Cells, B = fun j => (a.cells dv)[j]? := ⟨_, rfl⟩
  have HB := hid hB; clear hB
  obtain ⟨s0, hs0⟩ : ∃ s0, s0 = x.1 := ⟨_, rfl⟩
  have HN : Hid (s0.size + a.len + 300 ≤ 1000000) := by rw [hs0]; exact hs
  have HFW : Hid (a.path.length + a.to.length + a.toName.length ≤ a.len) := by show _ ≤ _; unfold ArgsV.len; omega
  have H := hid h; have HS0 := hid hs0
  clear h hs hs0
  go_enter Try.func45, Try.ntmps45
  go_upto_region 1 with fail
  have hm0 : Mods (fun _ => False) w (w.alloc (.cells A 30)) := Mods.alloc _ _ _
  have hbl : Blk (w.alloc (.cells A 30)) w.heap.size B := (Blk.new w A _).congr (by funext j; rw [HA.out, HB.out]; simp)
  have h1 : OAt (w.alloc (.cells A 30)) c p F w.heap.size (s0, B) := ⟨by rw [HS0.out]; exact H.out.co.keep hm0 fun _ _ h => h, hbl, fun hf => by have := H.out.co.lt _ hf; omega⟩
  generalize w.alloc (.cells A 30) = w0 at hm0 h1 ⊢
  have HM0 := hid hm0
  have A0 := hid h1
  obtain ⟨gb, hgb⟩ : ∃ gb, gb = w.heap.size := ⟨_, rfl⟩
  rw [← hgb] at A0 ⊢
  have HG1 := hid hgb
  obtain ⟨F0, hF0⟩ : ∃ F0, F0 = F := ⟨_, rfl⟩
  rw [← hF0] at A0
  have HF0 := hid hF0
  have G0 : Hid (GG w0 F0 gb w0 F0) := GG.refl _ _ _
  have BC : ∀ j, B j = (a.cells dv)[j]? := fun j => by rw [HB.out]
  have HBC := hid BC
  clear hm0 hbl h1 hA1 hgb hF0 BC
  obtain ⟨s1, e1⟩ : ∃ z, z = oSet a.set s0 := ⟨_, rfl⟩
  have K1 : Hid (s1.size ≤ s0.size + 60) := by have h1 : s1.size ≤ s0.size + 60 := (by rw [e1]; exact size_oSet _ _); exact h1
  have E1 := hid e1; clear e1
  have D := hid (set_out c p F0 gb _ a.set w0 A0.out (by  have := HN.out; have := HFW.out; simp only; omega) (ArgsV.good_set HG.out))
  have hc0 : w0.cell? ⟨gb, 5, none⟩ = some (.bool a.set.hasMode) := (A0.out.bl.cell 5).trans (HBC.out 5)
  have hc1 : w0.cell? ⟨gb, 6, none⟩ = some (.bool a.set.hasUid) := (A0.out.bl.cell 6).trans (HBC.out 6)
  have hc2 : w0.cell? ⟨gb, 7, none⟩ = some (.bool a.set.hasGid) := (A0.out.bl.cell 7).trans (HBC.out 7)
  have hc3 : w0.cell? ⟨gb, 8, none⟩ = some (.bool a.set.hasSize) := (A0.out.bl.cell 8).trans (HBC.out 8)
  have hc4 : w0.cell? ⟨gb, 9, none⟩ = some (.int .i64 a.set.mode) := (A0.out.bl.cell 9).trans (HBC.out 9)
  have hc5 : w0.cell? ⟨gb, 10, none⟩ = some (.int .u32 a.set.uid) := (A0.out.bl.cell 10).trans (HBC.out 10)
  have hc6 : w0.cell? ⟨gb, 11, none⟩ = some (.int .u32 a.set.gid) := (A0.out.bl.cell 11).trans (HBC.out 11)
  have hc7 : w0.cell? ⟨gb, 12, none⟩ = some (.int .u64 a.set.size) := (A0.out.bl.cell 12).trans (HBC.out 12)
  have hc8 : w0.cell? ⟨gb, 13, none⟩ = some (.int .i64 a.set.atimeHow) := (A0.out.bl.cell 13).trans (HBC.out 13)
  have hc9 : w0.cell? ⟨gb, 14, none⟩ = some (.int .i64 a.set.mtimeHow) := (A0.out.bl.cell 14).trans (HBC.out 14)
  have hc10 : w0.cell? ⟨gb, 15, none⟩ = some (.int .u32 a.set.atime.sec) := (A0.out.bl.cell 15).trans (HBC.out 15)
  have hc11 : w0.cell? ⟨gb, 16, none⟩ = some (.int .u32 a.set.atime.nsec) := (A0.out.bl.cell 16).trans (HBC.out 16)
  have hc12 : w0.cell? ⟨gb, 17, none⟩ = some (.int .u32 a.set.mtime.sec) := (A0.out.bl.cell 17).trans (HBC.out 17)
  have hc13 : w0.cell? ⟨gb, 18, none⟩ = some (.int .u32 a.set.mtime.nsec) := (A0.out.bl.cell 18).trans (HBC.out 18)
  go_wp2_with fail
  refine D.out.mono ?_
  rintro e w1 ⟨rfl, F1, A1, g1⟩
  clear D hc0 hc1 hc2 hc3 hc4 hc5 hc6 hc7 hc8 hc9 hc10 hc11 hc12 hc13
  replace A1 : Hid (OAt w1 c p F1 gb (s1, B)) := by rw [E1.out]; exact A1
  have G1 := hid (G0.out.trans g1.out); clear g1
  obtain ⟨s2, e2⟩ : ∃ z, z = oText 1024 a.path s1 := ⟨_, rfl⟩
  have K2 : Hid (s2.size ≤ s1.size + (a.path.length + 8)) := by have h1 : s2.size ≤ s1.size + (a.path.length + 8) := (by rw [e2]; exact size_oText _ _ _); exact h1
  have E2 := hid e2; clear e2
  have D := hid (text_out c p F1 gb _ a.path 1024 w1 A1.out (by have := K1.out; have := HN.out; have := HFW.out; simp only; omega))
  have hc0 : w1.cell? ⟨gb, 4, none⟩ = some (.string (str a.path)) := (A1.out.bl.cell 4).trans (HBC.out 4)
  go_wp2_with fail
  refine D.out.mono ?_
  rintro e w2 ⟨rfl, F2, A2, g2⟩
  clear D hc0
  replace A2 : Hid (OAt w2 c p F2 gb (s2, B)) := by rw [E2.out]; exact A2
  have G2 := hid (G1.out.trans g2.out); clear g2
  go_wp2
  go_end0
  have h2 := H.out.other HM0.out (Nat.le_of_eq HG1.out.symm) A2.out (by rw [← HF0.out]; exact G2.out)
  have hend : oMore 10 a x.1 = s2 := by rw [E2.out, E1.out, ← HS0.out]; simp [oMore]
  rw [hend]
  exact ⟨rfl, F2, h2.1, h2.2⟩

set_option maxRecDepth 100000 in
set_option maxHeartbeats 4000000 in
theorem more_out_11 (c p : Nat) (F : Nat → Prop) (g : Nat) (x : X) (a : ArgsV) (dv : Value) (w : World) (h : OAt w c p F g x) (hs : x.1.size + a.len + 300 ≤ 1000000) (hg : a.good) :
    Calls Try.prog 45 #[.pointer (some ⟨c, 0, none⟩), .int .i64 11, .agg (a.cells dv).toArray] w (OQ w c p F g (oMore 11 a x.1, x.2)) := by
  have HG := hid hg; clear hg
  obtain ⟨A, hAe⟩ : ∃ A, A = (a.cells dv).toArray := ⟨_, rfl⟩
  rw [← hAe]
  have hA1 : A[0]? = some (.string (str a.file)) := by rw [hAe]; rfl
  have HA := hid hAe
  clear hAe
  obtain ⟨B, hB⟩ : ∃ B : Cells, B = fun j => (a.cells dv)[j]? := ⟨_, rfl⟩
  have HB := hid hB; clear hB
  obtain ⟨s0, hs0⟩ : ∃ s0, s0 = x.1 := ⟨_, rfl⟩
  have HN : Hid (s0.size + a.len + 300 ≤ 1000000) := by rw [hs0]; exact hs
  have HFW : Hid (a.path.length + a.to.length + a.toName.length ≤ a.len) := by show _ ≤ _; unfold ArgsV.len; omega
  have H := hid h; have HS0 := hid hs0
  clear h hs hs0
  go_enter Try.func45, Try.ntmps45
  go_upto_region 1 with fail
  have hm0 : Mods (fun _ => False) w (w.alloc (.cells A 30)) := Mods.alloc _ _ _
  have hbl : Blk (w.alloc (.cells A 30)) w.heap.size B := (Blk.new w A _).congr (by funext j; rw [HA.out, HB.out]; simp)
  have h1 : OAt (w.alloc (.cells A 30)) c p F w.heap.size (s0, B) := ⟨by rw [HS0.out]; exact H.out.co.keep hm0 fun _ _ h => h, hbl, fun hf => by have := H.out.co.lt _ hf; omega⟩
  generalize w.alloc (.cells A 30) = w0 at hm0 h1 ⊢
  have HM0 := hid hm0
  have A0 := hid h1
  obtain ⟨gb, hgb⟩ : ∃ gb, gb = w.heap.size := ⟨_, rfl⟩
  rw [← hgb] at A0 ⊢
  have HG1 := hid hgb
  obtain ⟨F0, hF0⟩ : ∃ F0, F0 = F := ⟨_, rfl⟩
  rw [← hF0] at A0
  have HF0 := hid hF0
  have G0 : Hid (GG w0 F0 gb w0 F0) := GG.refl _ _ _
  have BC : ∀ j, B j = (a.cells dv)[j]? := fun j => by rw [HB.out]
  have HBC := hid BC
  clear hm0 hbl h1 hA1 hgb hF0 BC
  obtain ⟨s1, e1⟩ : ∃ z, z = oNumber 1 7 a.type s0 := ⟨_, rfl⟩
  have K1 : Hid (s1.size ≤ s0.size + 4) := by have h1 : s1.size ≤ s0.size + 4 := (by rw [e1]; exact size_oNumber _ _ _ _); exact h1
  have E1 := hid e1; clear e1
  have D := hid (upto_out c p F0 gb _ a.type 1 7 w0 A0.out (by  have := HN.out; have := HFW.out; simp only; omega))
  have hc0 : w0.cell? ⟨gb, 27, none⟩ = some (.int .i64 a.type) := (A0.out.bl.cell 27).trans (HBC.out 27)
  go_wp2_with fail
  refine D.out.mono ?_
  rintro e w1 ⟨rfl, F1, A1, g1⟩
  clear D hc0
  replace A1 : Hid (OAt w1 c p F1 gb (s1, B)) := by rw [E1.out]; exact A1
  have G1 := hid (G0.out.trans g1.out); clear g1
  have hc0 : w1.cell? ⟨gb, 27, none⟩ = some (.int .i64 a.type) := (A1.out.bl.cell 27).trans (HBC.out 27)
  by_cases h3 : a.type = 3
  · have HT : Hid (a.type = 3) := h3
    rw [h3] at hc0
    clear h3 
    go_upto_region 15 with fail
    obtain ⟨s2, e2⟩ : ∃ z, z = oSet a.set s1 := ⟨_, rfl⟩
    have K2 : Hid (s2.size ≤ s1.size + 60) := by have h1 : s2.size ≤ s1.size + 60 := (by rw [e2]; exact size_oSet _ _); exact h1
    have E2 := hid e2; clear e2
    have D := hid (set_out c p F1 gb _ a.set w1 A1.out (by have := K1.out; have := HN.out; have := HFW.out; simp only; omega) (ArgsV.good_set HG.out))
    have hc0 : w1.cell? ⟨gb, 5, none⟩ = some (.bool a.set.hasMode) := (A1.out.bl.cell 5).trans (HBC.out 5)
    have hc1 : w1.cell? ⟨gb, 6, none⟩ = some (.bool a.set.hasUid) := (A1.out.bl.cell 6).trans (HBC.out 6)
    have hc2 : w1.cell? ⟨gb, 7, none⟩ = some (.bool a.set.hasGid) := (A1.out.bl.cell 7).trans (HBC.out 7)
    have hc3 : w1.cell? ⟨gb, 8, none⟩ = some (.bool a.set.hasSize) := (A1.out.bl.cell 8).trans (HBC.out 8)
    have hc4 : w1.cell? ⟨gb, 9, none⟩ = some (.int .i64 a.set.mode) := (A1.out.bl.cell 9).trans (HBC.out 9)
    have hc5 : w1.cell? ⟨gb, 10, none⟩ = some (.int .u32 a.set.uid) := (A1.out.bl.cell 10).trans (HBC.out 10)
    have hc6 : w1.cell? ⟨gb, 11, none⟩ = some (.int .u32 a.set.gid) := (A1.out.bl.cell 11).trans (HBC.out 11)
    have hc7 : w1.cell? ⟨gb, 12, none⟩ = some (.int .u64 a.set.size) := (A1.out.bl.cell 12).trans (HBC.out 12)
    have hc8 : w1.cell? ⟨gb, 13, none⟩ = some (.int .i64 a.set.atimeHow) := (A1.out.bl.cell 13).trans (HBC.out 13)
    have hc9 : w1.cell? ⟨gb, 14, none⟩ = some (.int .i64 a.set.mtimeHow) := (A1.out.bl.cell 14).trans (HBC.out 14)
    have hc10 : w1.cell? ⟨gb, 15, none⟩ = some (.int .u32 a.set.atime.sec) := (A1.out.bl.cell 15).trans (HBC.out 15)
    have hc11 : w1.cell? ⟨gb, 16, none⟩ = some (.int .u32 a.set.atime.nsec) := (A1.out.bl.cell 16).trans (HBC.out 16)
    have hc12 : w1.cell? ⟨gb, 17, none⟩ = some (.int .u32 a.set.mtime.sec) := (A1.out.bl.cell 17).trans (HBC.out 17)
    have hc13 : w1.cell? ⟨gb, 18, none⟩ = some (.int .u32 a.set.mtime.nsec) := (A1.out.bl.cell 18).trans (HBC.out 18)
    go_wp2_with fail
    refine D.out.mono ?_
    rintro e w2 ⟨rfl, F2, A2, g2⟩
    clear D hc0 hc1 hc2 hc3 hc4 hc5 hc6 hc7 hc8 hc9 hc10 hc11 hc12 hc13
    replace A2 : Hid (OAt w2 c p F2 gb (s2, B)) := by rw [E2.out]; exact A2
    have G2 := hid (G1.out.trans g2.out); clear g2
    have hc9 : w2.cell? ⟨gb, 27, none⟩ = some (.int .i64 3) := (A2.out.bl.cell 27).trans ((HBC.out 27).trans (by rw [← HT.out]; rfl))
    obtain ⟨s3, e3⟩ : ∃ z, z = oU32 a.spec1 s2 := ⟨_, rfl⟩
    have K3 : Hid (s3.size ≤ s2.size + 4) := by have h1 : s3.size ≤ s2.size + 4 := (by rw [e3]; exact size_oU32 _ _); exact h1
    have E3 := hid e3; clear e3
    go_upto_region 17 with fail
    refine OAt.put7 A2.out (wr_u32 (v := a.spec1) (by have := K1.out; have := K2.out; have := HN.out; have := HFW.out; simp only; omega) (ArgsV.good_spec1 HG.out) p) (fun _ _ _ _ _ h => h) rfl (by kernel_rfl) (n := 144) rfl rfl rfl (by decide) enter_u32 (o := 34) (fun w => by go_simp) (fun w => load_u32 w _ _ _) (HBC.out 34) (fun F3 w3 A3 g3 => ?_)
    simp only [Act.put, List.setIfInBounds_toArray, List.set_cons_succ, List.set_cons_zero]
    replace A3 : Hid (OAt w3 c p F3 gb (s3, B)) := by rw [E3.out]; exact A3
    have G3 := hid (G2.out.trans g3.out); clear g3
    obtain ⟨s4, e4⟩ : ∃ z, z = oU32 a.spec2 s3 := ⟨_, rfl⟩
    have K4 : Hid (s4.size ≤ s3.size + 4) := by have h1 : s4.size ≤ s3.size + 4 := (by rw [e4]; exact size_oU32 _ _); exact h1
    have E4 := hid e4; clear e4
    go_upto_region 18 with fail
    refine OAt.put7 A3.out (wr_u32 (v := a.spec2) (by have := K1.out; have := K2.out; have := K3.out; have := HN.out; have := HFW.out; simp only; omega) (ArgsV.good_spec2 HG.out) p) (fun _ _ _ _ _ h => h) rfl (by kernel_rfl) (n := 144) rfl rfl rfl (by decide) enter_u32 (o := 35) (fun w => by go_simp) (fun w => load_u32 w _ _ _) (HBC.out 35) (fun F4 w4 A4 g4 => ?_)
    simp only [Act.put, List.setIfInBounds_toArray, List.set_cons_succ, List.set_cons_zero]
    replace A4 : Hid (OAt w4 c p F4 gb (s4, B)) := by rw [E4.out]; exact A4
    have G4 := hid (G3.out.trans g4.out); clear g4
    clear hc0 hc9
    go_wp2
    go_end0
    have h2 := H.out.other HM0.out (Nat.le_of_eq HG1.out.symm) A4.out (by rw [← HF0.out]; exact G4.out)
    have hend : oMore 11 a x.1 = s4 := by rw [E4.out, E3.out, E2.out, E1.out, ← HS0.out]; simp [oMore, HT.out]
    rw [hend]
    exact ⟨rfl, F4, h2.1, h2.2⟩
  · have n3 : (a.type == 3) = false := by simpa using h3
    by_cases h4 : a.type = 4
    · have HT : Hid (a.type = 4) := h4
      rw [h4] at hc0
      clear h4 h3
      go_upto_region 15 with fail
      obtain ⟨s2, e2⟩ : ∃ z, z = oSet a.set s1 := ⟨_, rfl⟩
      have K2 : Hid (s2.size ≤ s1.size + 60) := by have h1 : s2.size ≤ s1.size + 60 := (by rw [e2]; exact size_oSet _ _); exact h1
      have E2 := hid e2; clear e2
      have D := hid (set_out c p F1 gb _ a.set w1 A1.out (by have := K1.out; have := HN.out; have := HFW.out; simp only; omega) (ArgsV.good_set HG.out))
      have hc0 : w1.cell? ⟨gb, 5, none⟩ = some (.bool a.set.hasMode) := (A1.out.bl.cell 5).trans (HBC.out 5)
      have hc1 : w1.cell? ⟨gb, 6, none⟩ = some (.bool a.set.hasUid) := (A1.out.bl.cell 6).trans (HBC.out 6)
      have hc2 : w1.cell? ⟨gb, 7, none⟩ = some (.bool a.set.hasGid) := (A1.out.bl.cell 7).trans (HBC.out 7)
      have hc3 : w1.cell? ⟨gb, 8, none⟩ = some (.bool a.set.hasSize) := (A1.out.bl.cell 8).trans (HBC.out 8)
      have hc4 : w1.cell? ⟨gb, 9, none⟩ = some (.int .i64 a.set.mode) := (A1.out.bl.cell 9).trans (HBC.out 9)
      have hc5 : w1.cell? ⟨gb, 10, none⟩ = some (.int .u32 a.set.uid) := (A1.out.bl.cell 10).trans (HBC.out 10)
      have hc6 : w1.cell? ⟨gb, 11, none⟩ = some (.int .u32 a.set.gid) := (A1.out.bl.cell 11).trans (HBC.out 11)
      have hc7 : w1.cell? ⟨gb, 12, none⟩ = some (.int .u64 a.set.size) := (A1.out.bl.cell 12).trans (HBC.out 12)
      have hc8 : w1.cell? ⟨gb, 13, none⟩ = some (.int .i64 a.set.atimeHow) := (A1.out.bl.cell 13).trans (HBC.out 13)
      have hc9 : w1.cell? ⟨gb, 14, none⟩ = some (.int .i64 a.set.mtimeHow) := (A1.out.bl.cell 14).trans (HBC.out 14)
      have hc10 : w1.cell? ⟨gb, 15, none⟩ = some (.int .u32 a.set.atime.sec) := (A1.out.bl.cell 15).trans (HBC.out 15)
      have hc11 : w1.cell? ⟨gb, 16, none⟩ = some (.int .u32 a.set.atime.nsec) := (A1.out.bl.cell 16).trans (HBC.out 16)
      have hc12 : w1.cell? ⟨gb, 17, none⟩ = some (.int .u32 a.set.mtime.sec) := (A1.out.bl.cell 17).trans (HBC.out 17)
      have hc13 : w1.cell? ⟨gb, 18, none⟩ = some (.int .u32 a.set.mtime.nsec) := (A1.out.bl.cell 18).trans (HBC.out 18)
      go_wp2_with fail
      refine D.out.mono ?_
      rintro e w2 ⟨rfl, F2, A2, g2⟩
      clear D hc0 hc1 hc2 hc3 hc4 hc5 hc6 hc7 hc8 hc9 hc10 hc11 hc12 hc13
      replace A2 : Hid (OAt w2 c p F2 gb (s2, B)) := by rw [E2.out]; exact A2
      have G2 := hid (G1.out.trans g2.out); clear g2
      have hc9 : w2.cell? ⟨gb, 27, none⟩ = some (.int .i64 4) := (A2.out.bl.cell 27).trans ((HBC.out 27).trans (by rw [← HT.out]; rfl))
      obtain ⟨s3, e3⟩ : ∃ z, z = oU32 a.spec1 s2 := ⟨_, rfl⟩
      have K3 : Hid (s3.size ≤ s2.size + 4) := by have h1 : s3.size ≤ s2.size + 4 := (by rw [e3]; exact size_oU32 _ _); exact h1
      have E3 := hid e3; clear e3
      go_upto_region 17 with fail
      refine OAt.put7 A2.out (wr_u32 (v := a.spec1) (by have := K1.out; have := K2.out; have := HN.out; have := HFW.out; simp only; omega) (ArgsV.good_spec1 HG.out) p) (fun _ _ _ _ _ h => h) rfl (by kernel_rfl) (n := 144) rfl rfl rfl (by decide) enter_u32 (o := 34) (fun w => by go_simp) (fun w => load_u32 w _ _ _) (HBC.out 34) (fun F3 w3 A3 g3 => ?_)
      simp only [Act.put, List.setIfInBounds_toArray, List.set_cons_succ, List.set_cons_zero]
      replace A3 : Hid (OAt w3 c p F3 gb (s3, B)) := by rw [E3.out]; exact A3
      have G3 := hid (G2.out.trans g3.out); clear g3
      obtain ⟨s4, e4⟩ : ∃ z, z = oU32 a.spec2 s3 := ⟨_, rfl⟩
      have K4 : Hid (s4.size ≤ s3.size + 4) := by have h1 : s4.size ≤ s3.size + 4 := (by rw [e4]; exact size_oU32 _ _); exact h1
      have E4 := hid e4; clear e4
      go_upto_region 18 with fail
      refine OAt.put7 A3.out (wr_u32 (v := a.spec2) (by have := K1.out; have := K2.out; have := K3.out; have := HN.out; have := HFW.out; simp only; omega) (ArgsV.good_spec2 HG.out) p) (fun _ _ _ _ _ h => h) rfl (by kernel_rfl) (n := 144) rfl rfl rfl (by decide) enter_u32 (o := 35) (fun w => by go_simp) (fun w => load_u32 w _ _ _) (HBC.out 35) (fun F4 w4 A4 g4 => ?_)
      simp only [Act.put, List.setIfInBounds_toArray, List.set_cons_succ, List.set_cons_zero]
      replace A4 : Hid (OAt w4 c p F4 gb (s4, B)) := by rw [E4.out]; exact A4
      have G4 := hid (G3.out.trans g4.out); clear g4
      clear hc0 hc9
      go_wp2
      go_end0
      have h2 := H.out.other HM0.out (Nat.le_of_eq HG1.out.symm) A4.out (by rw [← HF0.out]; exact G4.out)
      have hend : oMore 11 a x.1 = s4 := by rw [E4.out, E3.out, E2.out, E1.out, ← HS0.out]; simp [oMore, HT.out]
      rw [hend]
      exact ⟨rfl, F4, h2.1, h2.2⟩
    · have n4 : (a.type == 4) = false := by simpa using h4
      by_cases h6 : a.type = 6
      · have HT : Hid (a.type = 6) := h6
        rw [h6] at hc0
        clear h6 h3 h4
        go_upto_region 15 with fail
        obtain ⟨s2, e2⟩ : ∃ z, z = oSet a.set s1 := ⟨_, rfl⟩
        have K2 : Hid (s2.size ≤ s1.size + 60) := by have h1 : s2.size ≤ s1.size + 60 := (by rw [e2]; exact size_oSet _ _); exact h1
        have E2 := hid e2; clear e2
        have D := hid (set_out c p F1 gb _ a.set w1 A1.out (by have := K1.out; have := HN.out; have := HFW.out; simp only; omega) (ArgsV.good_set HG.out))
        have hc0 : w1.cell? ⟨gb, 5, none⟩ = some (.bool a.set.hasMode) := (A1.out.bl.cell 5).trans (HBC.out 5)
        have hc1 : w1.cell? ⟨gb, 6, none⟩ = some (.bool a.set.hasUid) := (A1.out.bl.cell 6).trans (HBC.out 6)
        have hc2 : w1.cell? ⟨gb, 7, none⟩ = some (.bool a.set.hasGid) := (A1.out.bl.cell 7).trans (HBC.out 7)
        have hc3 : w1.cell? ⟨gb, 8, none⟩ = some (.bool a.set.hasSize) := (A1.out.bl.cell 8).trans (HBC.out 8)
        have hc4 : w1.cell? ⟨gb, 9, none⟩ = some (.int .i64 a.set.mode) := (A1.out.bl.cell 9).trans (HBC.out 9)
        have hc5 : w1.cell? ⟨gb, 10, none⟩ = some (.int .u32 a.set.uid) := (A1.out.bl.cell 10).trans (HBC.out 10)
        have hc6 : w1.cell? ⟨gb, 11, none⟩ = some (.int .u32 a.set.gid) := (A1.out.bl.cell 11).trans (HBC.out 11)
        have hc7 : w1.cell? ⟨gb, 12, none⟩ = some (.int .u64 a.set.size) := (A1.out.bl.cell 12).trans (HBC.out 12)
        have hc8 : w1.cell? ⟨gb, 13, none⟩ = some (.int .i64 a.set.atimeHow) := (A1.out.bl.cell 13).trans (HBC.out 13)
        have hc9 : w1.cell? ⟨gb, 14, none⟩ = some (.int .i64 a.set.mtimeHow) := (A1.out.bl.cell 14).trans (HBC.out 14)
        have hc10 : w1.cell? ⟨gb, 15, none⟩ = some (.int .u32 a.set.atime.sec) := (A1.out.bl.cell 15).trans (HBC.out 15)
        have hc11 : w1.cell? ⟨gb, 16, none⟩ = some (.int .u32 a.set.atime.nsec) := (A1.out.bl.cell 16).trans (HBC.out 16)
        have hc12 : w1.cell? ⟨gb, 17, none⟩ = some (.int .u32 a.set.mtime.sec) := (A1.out.bl.cell 17).trans (HBC.out 17)
        have hc13 : w1.cell? ⟨gb, 18, none⟩ = some (.int .u32 a.set.mtime.nsec) := (A1.out.bl.cell 18).trans (HBC.out 18)
        go_wp2_with fail
        refine D.out.mono ?_
        rintro e w2 ⟨rfl, F2, A2, g2⟩
        clear D hc0 hc1 hc2 hc3 hc4 hc5 hc6 hc7 hc8 hc9 hc10 hc11 hc12 hc13
        replace A2 : Hid (OAt w2 c p F2 gb (s2, B)) := by rw [E2.out]; exact A2
        have G2 := hid (G1.out.trans g2.out); clear g2
        have hc9 : w2.cell? ⟨gb, 27, none⟩ = some (.int .i64 6) := (A2.out.bl.cell 27).trans ((HBC.out 27).trans (by rw [← HT.out]; rfl))
        go_wp2
        go_end0
        have h2 := H.out.other HM0.out (Nat.le_of_eq HG1.out.symm) A2.out (by rw [← HF0.out]; exact G2.out)
        have hend : oMore 11 a x.1 = s2 := by rw [E2.out, E1.out, ← HS0.out]; simp [oMore, HT.out]
        rw [hend]
        exact ⟨rfl, F2, h2.1, h2.2⟩
      · have n6 : (a.type == 6) = false := by simpa using h6
        by_cases h7 : a.type = 7
        · have HT : Hid (a.type = 7) := h7
          rw [h7] at hc0
          clear h7 h3 h4 h6
          go_upto_region 15 with fail
          obtain ⟨s2, e2⟩ : ∃ z, z = oSet a.set s1 := ⟨_, rfl⟩
          have K2 : Hid (s2.size ≤ s1.size + 60) := by have h1 : s2.size ≤ s1.size + 60 := (by rw [e2]; exact size_oSet _ _); exact h1
          have E2 := hid e2; clear e2
          have D := hid (set_out c p F1 gb _ a.set w1 A1.out (by have := K1.out; have := HN.out; have := HFW.out; simp only; omega) (ArgsV.good_set HG.out))
          have hc0 : w1.cell? ⟨gb, 5, none⟩ = some (.bool a.set.hasMode) := (A1.out.bl.cell 5).trans (HBC.out 5)
          have hc1 : w1.cell? ⟨gb, 6, none⟩ = some (.bool a.set.hasUid) := (A1.out.bl.cell 6).trans (HBC.out 6)
          have hc2 : w1.cell? ⟨gb, 7, none⟩ = some (.bool a.set.hasGid) := (A1.out.bl.cell 7).trans (HBC.out 7)
          have hc3 : w1.cell? ⟨gb, 8, none⟩ = some (.bool a.set.hasSize) := (A1.out.bl.cell 8).trans (HBC.out 8)
          have hc4 : w1.cell? ⟨gb, 9, none⟩ = some (.int .i64 a.set.mode) := (A1.out.bl.cell 9).trans (HBC.out 9)
          have hc5 : w1.cell? ⟨gb, 10, none⟩ = some (.int .u32 a.set.uid) := (A1.out.bl.cell 10).trans (HBC.out 10)
          have hc6 : w1.cell? ⟨gb, 11, none⟩ = some (.int .u32 a.set.gid) := (A1.out.bl.cell 11).trans (HBC.out 11)
          have hc7 : w1.cell? ⟨gb, 12, none⟩ = some (.int .u64 a.set.size) := (A1.out.bl.cell 12).trans (HBC.out 12)
          have hc8 : w1.cell? ⟨gb, 13, none⟩ = some (.int .i64 a.set.atimeHow) := (A1.out.bl.cell 13).trans (HBC.out 13)
          have hc9 : w1.cell? ⟨gb, 14, none⟩ = some (.int .i64 a.set.mtimeHow) := (A1.out.bl.cell 14).trans (HBC.out 14)
          have hc10 : w1.cell? ⟨gb, 15, none⟩ = some (.int .u32 a.set.atime.sec) := (A1.out.bl.cell 15).trans (HBC.out 15)
          have hc11 : w1.cell? ⟨gb, 16, none⟩ = some (.int .u32 a.set.atime.nsec) := (A1.out.bl.cell 16).trans (HBC.out 16)
          have hc12 : w1.cell? ⟨gb, 17, none⟩ = some (.int .u32 a.set.mtime.sec) := (A1.out.bl.cell 17).trans (HBC.out 17)
          have hc13 : w1.cell? ⟨gb, 18, none⟩ = some (.int .u32 a.set.mtime.nsec) := (A1.out.bl.cell 18).trans (HBC.out 18)
          go_wp2_with fail
          refine D.out.mono ?_
          rintro e w2 ⟨rfl, F2, A2, g2⟩
          clear D hc0 hc1 hc2 hc3 hc4 hc5 hc6 hc7 hc8 hc9 hc10 hc11 hc12 hc13
          replace A2 : Hid (OAt w2 c p F2 gb (s2, B)) := by rw [E2.out]; exact A2
          have G2 := hid (G1.out.trans g2.out); clear g2
          have hc9 : w2.cell? ⟨gb, 27, none⟩ = some (.int .i64 7) := (A2.out.bl.cell 27).trans ((HBC.out 27).trans (by rw [← HT.out]; rfl))
          go_wp2
          go_end0
          have h2 := H.out.other HM0.out (Nat.le_of_eq HG1.out.symm) A2.out (by rw [← HF0.out]; exact G2.out)
          have hend : oMore 11 a x.1 = s2 := by rw [E2.out, E1.out, ← HS0.out]; simp [oMore, HT.out]
          rw [hend]
          exact ⟨rfl, F2, h2.1, h2.2⟩
        · have n7 : (a.type == 7) = false := by simpa using h7
          have HT := hid (And.intro h3 (And.intro h4 (And.intro h6 h7)))
          clear h3 h4 h6 h7
          go_wp2
          go_end0
          have h2 := H.out.other HM0.out (Nat.le_of_eq HG1.out.symm) A1.out (by rw [← HF0.out]; exact G1.out)
          have hend : oMore 11 a x.1 = s1 := by rw [E1.out, ← HS0.out]; simp [oMore, HT.out]
          rw [hend]
          exact ⟨rfl, F1, h2.1, h2.2⟩

set_option maxRecDepth 100000 in
set_option maxHeartbeats 4000000 in
theorem more_out_14 (c p : Nat) (F : Nat → Prop) (g : Nat) (x : X) (a : ArgsV) (dv : Value) (w : World) (h : OAt w c p F g x) (hs : x.1.size + a.len + 300 ≤ 1000000) (hg : a.good) :
    Calls Try.prog 45 #[.pointer (some ⟨c, 0, none⟩), .int .i64 14, .agg (a.cells dv).toArray] w (OQ w c p F g (oMore 14 a x.1, x.2)) := by
  have HG := hid hg; clear hg
  obtain ⟨A, hAe⟩ : ∃ A, A = (a.cells dv).toArray := ⟨_, rfl⟩
  rw [← hAe]
  have hA1 : A[0]? = some (.string (str a.file)) := by rw [hAe]; rfl
  have HA := hid hAe
  clear hAe
  obtain ⟨B, hB⟩ : ∃ B : Cells, B = fun j => (a.cells dv)[j]? := ⟨_, rfl⟩
  have HB := hid hB; clear hB
  obtain ⟨s0, hs0⟩ : ∃ s0, s0 = x.1 := ⟨_, rfl⟩
  have HN : Hid (s0.size + a.len + 300 ≤ 1000000) := by rw [hs0]; exact hs
  have HFW : Hid (a.path.length + a.to.length + a.toName.length ≤ a.len) := by show _ ≤ _; unfold ArgsV.len; omega
  have H := hid h; have HS0 := hid hs0
  clear h hs hs0
  go_enter Try.func45, Try.ntmps45
  go_upto_region 1 with fail
  have hm0 : Mods (fun _ => False) w (w.alloc (.cells A 30)) := Mods.alloc _ _ _
  have hbl : Blk (w.alloc (.cells A 30)) w.heap.size B := (Blk.new w A _).congr (by funext j; rw [HA.out, HB.out]; simp)
  have h1 : OAt (w.alloc (.cells A 30)) c p F w.heap.size (s0, B) := ⟨by rw [HS0.out]; exact H.out.co.keep hm0 fun _ _ h => h, hbl, fun hf => by have := H.out.co.lt _ hf; omega⟩
  generalize w.alloc (.cells A 30) = w0 at hm0 h1 ⊢
  have HM0 := hid hm0
  have A0 := hid h1
  obtain ⟨gb, hgb⟩ : ∃ gb, gb = w.heap.size := ⟨_, rfl⟩
  rw [← hgb] at A0 ⊢
  have HG1 := hid hgb
  obtain ⟨F0, hF0⟩ : ∃ F0, F0 = F := ⟨_, rfl⟩
  rw [← hF0] at A0
  have HF0 := hid hF0
  have G0 : Hid (GG w0 F0 gb w0 F0) := GG.refl _ _ _
  have BC : ∀ j, B j = (a.cells dv)[j]? := fun j => by rw [HB.out]
  have HBC := hid BC
  clear hm0 hbl h1 hA1 hgb hF0 BC
  obtain ⟨s1, e1⟩ : ∃ z, z = oText 64 a.to s0 := ⟨_, rfl⟩
  have K1 : Hid (s1.size ≤ s0.size + (a.to.length + 8)) := by have h1 : s1.size ≤ s0.size + (a.to.length + 8) := (by rw [e1]; exact size_oText _ _ _); exact h1
  have E1 := hid e1; clear e1
  have D := hid (text_out c p F0 gb _ a.to 64 w0 A0.out (by  have := HN.out; have := HFW.out; simp only; omega))
  have hc0 : w0.cell? ⟨gb, 1, none⟩ = some (.string (str a.to)) := (A0.out.bl.cell 1).trans (HBC.out 1)
  go_wp2_with fail
  refine D.out.mono ?_
  rintro e w1 ⟨rfl, F1, A1, g1⟩
  clear D hc0
  replace A1 : Hid (OAt w1 c p F1 gb (s1, B)) := by rw [E1.out]; exact A1
  have G1 := hid (G0.out.trans g1.out); clear g1
  obtain ⟨s2, e2⟩ : ∃ z, z = oText 255 a.toName s1 := ⟨_, rfl⟩
  have K2 : Hid (s2.size ≤ s1.size + (a.toName.length + 8)) := by have h1 : s2.size ≤ s1.size + (a.toName.length + 8) := (by rw [e2]; exact size_oText _ _ _); exact h1
  have E2 := hid e2; clear e2
  have D := hid (text_out c p F1 gb _ a.toName 255 w1 A1.out (by have := K1.out; have := HN.out; have := HFW.out; simp only; omega))
  have hc0 : w1.cell? ⟨gb, 3, none⟩ = some (.string (str a.toName)) := (A1.out.bl.cell 3).trans (HBC.out 3)
  go_wp2_with fail
  refine D.out.mono ?_
  rintro e w2 ⟨rfl, F2, A2, g2⟩
  clear D hc0
  replace A2 : Hid (OAt w2 c p F2 gb (s2, B)) := by rw [E2.out]; exact A2
  have G2 := hid (G1.out.trans g2.out); clear g2
  go_wp2
  go_end0
  have h2 := H.out.other HM0.out (Nat.le_of_eq HG1.out.symm) A2.out (by rw [← HF0.out]; exact G2.out)
  have hend : oMore 14 a x.1 = s2 := by rw [E2.out, E1.out, ← HS0.out]; simp [oMore]
  rw [hend]
  exact ⟨rfl, F2, h2.1, h2.2⟩

set_option maxRecDepth 100000 in
set_option maxHeartbeats 4000000 in
theorem more_out_15 (c p : Nat) (F : Nat → Prop) (g : Nat) (x : X) (a : ArgsV) (dv : Value) (w : World) (h : OAt w c p F g x) (hs : x.1.size + a.len + 300 ≤ 1000000) (hg : a.good) :
    Calls Try.prog 45 #[.pointer (some ⟨c, 0, none⟩), .int .i64 15, .agg (a.cells dv).toArray] w (OQ w c p F g (oMore 15 a x.1, x.2)) := by
  have HG := hid hg; clear hg
  obtain ⟨A, hAe⟩ : ∃ A, A = (a.cells dv).toArray := ⟨_, rfl⟩
  rw [← hAe]
  have hA1 : A[0]? = some (.string (str a.file)) := by rw [hAe]; rfl
  have HA := hid hAe
  clear hAe
  obtain ⟨B, hB⟩ : ∃ B : Cells, B = fun j => (a.cells dv)[j]? := ⟨_, rfl⟩
  have HB := hid hB; clear hB
  obtain ⟨s0, hs0⟩ : ∃ s0, s0 = x.1 := ⟨_, rfl⟩
  have HN : Hid (s0.size + a.len + 300 ≤ 1000000) := by rw [hs0]; exact hs
  have HFW : Hid (a.path.length + a.to.length + a.toName.length ≤ a.len) := by show _ ≤ _; unfold ArgsV.len; omega
  have H := hid h; have HS0 := hid hs0
  clear h hs hs0
  go_enter Try.func45, Try.ntmps45
  go_upto_region 1 with fail
  have hm0 : Mods (fun _ => False) w (w.alloc (.cells A 30)) := Mods.alloc _ _ _
  have hbl : Blk (w.alloc (.cells A 30)) w.heap.size B := (Blk.new w A _).congr (by funext j; rw [HA.out, HB.out]; simp)
  have h1 : OAt (w.alloc (.cells A 30)) c p F w.heap.size (s0, B) := ⟨by rw [HS0.out]; exact H.out.co.keep hm0 fun _ _ h => h, hbl, fun hf => by have := H.out.co.lt _ hf; omega⟩
  generalize w.alloc (.cells A 30) = w0 at hm0 h1 ⊢
  have HM0 := hid hm0
  have A0 := hid h1
  obtain ⟨gb, hgb⟩ : ∃ gb, gb = w.heap.size := ⟨_, rfl⟩
  rw [← hgb] at A0 ⊢
  have HG1 := hid hgb
  obtain ⟨F0, hF0⟩ : ∃ F0, F0 = F := ⟨_, rfl⟩
  rw [← hF0] at A0
  have HF0 := hid hF0
  have G0 : Hid (GG w0 F0 gb w0 F0) := GG.refl _ _ _
  have BC : ∀ j, B j = (a.cells dv)[j]? := fun j => by rw [HB.out]
  have HBC := hid BC
  clear hm0 hbl h1 hA1 hgb hF0 BC
  obtain ⟨s1, e1⟩ : ∃ z, z = oText 64 a.to s0 := ⟨_, rfl⟩
  have K1 : Hid (s1.size ≤ s0.size + (a.to.length + 8)) := by have h1 : s1.size ≤ s0.size + (a.to.length + 8) := (by rw [e1]; exact size_oText _ _ _); exact h1
  have E1 := hid e1; clear e1
  have D := hid (text_out c p F0 gb _ a.to 64 w0 A0.out (by  have := HN.out; have := HFW.out; simp only; omega))
  have hc0 : w0.cell? ⟨gb, 1, none⟩ = some (.string (str a.to)) := (A0.out.bl.cell 1).trans (HBC.out 1)
  go_wp2_with fail
  refine D.out.mono ?_
  rintro e w1 ⟨rfl, F1, A1, g1⟩
  clear D hc0
  replace A1 : Hid (OAt w1 c p F1 gb (s1, B)) := by rw [E1.out]; exact A1
  have G1 := hid (G0.out.trans g1.out); clear g1
  obtain ⟨s2, e2⟩ : ∃ z, z = oText 255 a.toName s1 := ⟨_, rfl⟩
  have K2 : Hid (s2.size ≤ s1.size + (a.toName.length + 8)) := by have h1 : s2.size ≤ s1.size + (a.toName.length + 8) := (by rw [e2]; exact size_oText _ _ _); exact h1
  have E2 := hid e2; clear e2
  have D := hid (text_out c p F1 gb _ a.toName 255 w1 A1.out (by have := K1.out; have := HN.out; have := HFW.out; simp only; omega))
  have hc0 : w1.cell? ⟨gb, 3, none⟩ = some (.string (str a.toName)) := (A1.out.bl.cell 3).trans (HBC.out 3)
  go_wp2_with fail
  refine D.out.mono ?_
  rintro e w2 ⟨rfl, F2, A2, g2⟩
  clear D hc0
  replace A2 : Hid (OAt w2 c p F2 gb (s2, B)) := by rw [E2.out]; exact A2
  have G2 := hid (G1.out.trans g2.out); clear g2
  go_wp2
  go_end0
  have h2 := H.out.other HM0.out (Nat.le_of_eq HG1.out.symm) A2.out (by rw [← HF0.out]; exact G2.out)
  have hend : oMore 15 a x.1 = s2 := by rw [E2.out, E1.out, ← HS0.out]; simp [oMore]
  rw [hend]
  exact ⟨rfl, F2, h2.1, h2.2⟩

set_option maxRecDepth 100000 in
set_option maxHeartbeats 4000000 in
theorem more_out_16 (c p : Nat) (F : Nat → Prop) (g : Nat) (x : X) (a : ArgsV) (dv : Value) (w : World) (h : OAt w c p F g x) (hs : x.1.size + a.len + 300 ≤ 1000000) (hg : a.good) :
    Calls Try.prog 45 #[.pointer (some ⟨c, 0, none⟩), .int .i64 16, .agg (a.cells dv).toArray] w (OQ w c p F g (oMore 16 a x.1, x.2)) := by
  have HG := hid hg; clear hg
  obtain ⟨A, hAe⟩ : ∃ A, A = (a.cells dv).toArray := ⟨_, rfl⟩
  rw [← hAe]
  have hA1 : A[0]? = some (.string (str a.file)) := by rw [hAe]; rfl
  have HA := hid hAe
  clear hAe
  obtain ⟨B, hB⟩ : ∃ B : Cells, B = fun j => (a.cells dv)[j]? := ⟨_, rfl⟩
  have HB := hid hB; clear hB
  obtain ⟨s0, hs0⟩ : ∃ s0, s0 = x.1 := ⟨_, rfl⟩
  have HN : Hid (s0.size + a.len + 300 ≤ 1000000) := by rw [hs0]; exact hs
  have HFW : Hid (a.path.length + a.to.length + a.toName.length ≤ a.len) := by show _ ≤ _; unfold ArgsV.len; omega
  have H := hid h; have HS0 := hid hs0
  clear h hs hs0
  go_enter Try.func45, Try.ntmps45
  go_upto_region 1 with fail
  have hm0 : Mods (fun _ => False) w (w.alloc (.cells A 30)) := Mods.alloc _ _ _
  have hbl : Blk (w.alloc (.cells A 30)) w.heap.size B := (Blk.new w A _).congr (by funext j; rw [HA.out, HB.out]; simp)
  have h1 : OAt (w.alloc (.cells A 30)) c p F w.heap.size (s0, B) := ⟨by rw [HS0.out]; exact H.out.co.keep hm0 fun _ _ h => h, hbl, fun hf => by have := H.out.co.lt _ hf; omega⟩
  generalize w.alloc (.cells A 30) = w0 at hm0 h1 ⊢
  have HM0 := hid hm0
  have A0 := hid h1
  obtain ⟨gb, hgb⟩ : ∃ gb, gb = w.heap.size := ⟨_, rfl⟩
  rw [← hgb] at A0 ⊢
  have HG1 := hid hgb
  obtain ⟨F0, hF0⟩ : ∃ F0, F0 = F := ⟨_, rfl⟩
  rw [← hF0] at A0
  have HF0 := hid hF0
  have G0 : Hid (GG w0 F0 gb w0 F0) := GG.refl _ _ _
  have BC : ∀ j, B j = (a.cells dv)[j]? := fun j => by rw [HB.out]
  have HBC := hid BC
  clear hm0 hbl h1 hA1 hgb hF0 BC
  obtain ⟨s1, e1⟩ : ∃ z, z = oU64 a.cookie s0 := ⟨_, rfl⟩
  have K1 : Hid (s1.size ≤ s0.size + 8) := by have h1 : s1.size ≤ s0.size + 8 := (by rw [e1]; exact size_oU64 _ _); exact h1
  have E1 := hid e1; clear e1
  go_upto_region 25 with fail
  refine OAt.put7 A0.out (wr_u64 (v := a.cookie) (by  have := HN.out; have := HFW.out; simp only; omega) (ArgsV.good_cookie HG.out) p) (fun _ _ _ _ _ h => h) rfl (by kernel_rfl) (n := 144) rfl rfl rfl (by decide) enter_u64 (o := 30) (fun w => by go_simp) (fun w => load_u64 w _ _ _) (HBC.out 30) (fun F1 w1 A1 g1 => ?_)
  simp only [Act.put, List.setIfInBounds_toArray, List.set_cons_succ, List.set_cons_zero]
  replace A1 : Hid (OAt w1 c p F1 gb (s1, B)) := by rw [E1.out]; exact A1
  have G1 := hid (G0.out.trans g1.out); clear g1
  obtain ⟨s2, e2⟩ : ∃ z, z = oU64 a.cookieVerf s1 := ⟨_, rfl⟩
  have K2 : Hid (s2.size ≤ s1.size + 8) := by have h1 : s2.size ≤ s1.size + 8 := (by rw [e2]; exact size_oU64 _ _); exact h1
  have E2 := hid e2; clear e2
  go_upto_region 26 with fail
  refine OAt.put7 A1.out (wr_u64 (v := a.cookieVerf) (by have := K1.out; have := HN.out; have := HFW.out; simp only; omega) (ArgsV.good_cookieVerf HG.out) p) (fun _ _ _ _ _ h => h) rfl (by kernel_rfl) (n := 144) rfl rfl rfl (by decide) enter_u64 (o := 31) (fun w => by go_simp) (fun w => load_u64 w _ _ _) (HBC.out 31) (fun F2 w2 A2 g2 => ?_)
  simp only [Act.put, List.setIfInBounds_toArray, List.set_cons_succ, List.set_cons_zero]
  replace A2 : Hid (OAt w2 c p F2 gb (s2, B)) := by rw [E2.out]; exact A2
  have G2 := hid (G1.out.trans g2.out); clear g2
  obtain ⟨s3, e3⟩ : ∃ z, z = oU32 a.count s2 := ⟨_, rfl⟩
  have K3 : Hid (s3.size ≤ s2.size + 4) := by have h1 : s3.size ≤ s2.size + 4 := (by rw [e3]; exact size_oU32 _ _); exact h1
  have E3 := hid e3; clear e3
  go_upto_region 28 with fail
  refine OAt.put7 A2.out (wr_u32 (v := a.count) (by have := K1.out; have := K2.out; have := HN.out; have := HFW.out; simp only; omega) (ArgsV.good_count HG.out) p) (fun _ _ _ _ _ h => h) rfl (by kernel_rfl) (n := 144) rfl rfl rfl (by decide) enter_u32 (o := 24) (fun w => by go_simp) (fun w => load_u32 w _ _ _) (HBC.out 24) (fun F3 w3 A3 g3 => ?_)
  simp only [Act.put, List.setIfInBounds_toArray, List.set_cons_succ, List.set_cons_zero]
  replace A3 : Hid (OAt w3 c p F3 gb (s3, B)) := by rw [E3.out]; exact A3
  have G3 := hid (G2.out.trans g3.out); clear g3
  go_wp2
  go_end0
  have h2 := H.out.other HM0.out (Nat.le_of_eq HG1.out.symm) A3.out (by rw [← HF0.out]; exact G3.out)
  have hend : oMore 16 a x.1 = s3 := by rw [E3.out, E2.out, E1.out, ← HS0.out]; simp [oMore]
  rw [hend]
  exact ⟨rfl, F3, h2.1, h2.2⟩

set_option maxRecDepth 100000 in
set_option maxHeartbeats 4000000 in
theorem more_out_17 (c p : Nat) (F : Nat → Prop) (g : Nat) (x : X) (a : ArgsV) (dv : Value) (w : World) (h : OAt w c p F g x) (hs : x.1.size + a.len + 300 ≤ 1000000) (hg : a.good) :
    Calls Try.prog 45 #[.pointer (some ⟨c, 0, none⟩), .int .i64 17, .agg (a.cells dv).toArray] w (OQ w c p F g (oMore 17 a x.1, x.2)) := by
  have HG := hid hg; clear hg
  obtain ⟨A, hAe⟩ : ∃ A, A = (a.cells dv).toArray := ⟨_, rfl⟩
  rw [← hAe]
  have hA1 : A[0]? = some (.string (str a.file)) := by rw [hAe]; rfl
  have HA := hid hAe
  clear hAe
  obtain ⟨B, hB⟩ : ∃ B : Cells, B = fun j => (a.cells dv)[j]? := ⟨_, rfl⟩
  have HB := hid hB; clear hB
  obtain ⟨s0, hs0⟩ : ∃ s0, s0 = x.1 := ⟨_, rfl⟩
  have HN : Hid (s0.size + a.len + 300 ≤ 1000000) := by rw [hs0]; exact hs
  have HFW : Hid (a.path.length + a.to.length + a.toName.length ≤ a.len) := by show _ ≤ _; unfold ArgsV.len; omega
  have H := hid h; have HS0 := hid hs0
  clear h hs hs0
  go_enter Try.func45, Try.ntmps45
  go_upto_region 1 with fail
  have hm0 : Mods (fun _ => False) w (w.alloc (.cells A 30)) := Mods.alloc _ _ _
  have hbl : Blk (w.alloc (.cells A 30)) w.heap.size B := (Blk.new w A _).congr (by funext j; rw [HA.out, HB.out]; simp)
  have h1 : OAt (w.alloc (.cells A 30)) c p F w.heap.size (s0, B) := ⟨by rw [HS0.out]; exact H.out.co.keep hm0 fun _ _ h => h, hbl, fun hf => by have := H.out.co.lt _ hf; omega⟩
  generalize w.alloc (.cells A 30) = w0 at hm0 h1 ⊢
  have HM0 := hid hm0
  have A0 := hid h1
  obtain ⟨gb, hgb⟩ : ∃ gb, gb = w.heap.size := ⟨_, rfl⟩
  rw [← hgb] at A0 ⊢
  have HG1 := hid hgb
  obtain ⟨F0, hF0⟩ : ∃ F0, F0 = F := ⟨_, rfl⟩
  rw [← hF0] at A0
  have HF0 := hid hF0
  have G0 : Hid (GG w0 F0 gb w0 F0) := GG.refl _ _ _
  have BC : ∀ j, B j = (a.cells dv)[j]? := fun j => by rw [HB.out]
  have HBC := hid BC
  clear hm0 hbl h1 hA1 hgb hF0 BC
  obtain ⟨s1, e1⟩ : ∃ z, z = oU64 a.cookie s0 := ⟨_, rfl⟩
  have K1 : Hid (s1.size ≤ s0.size + 8) := by have h1 : s1.size ≤ s0.size + 8 := (by rw [e1]; exact size_oU64 _ _); exact h1
  have E1 := hid e1; clear e1
  go_upto_region 25 with fail
  refine OAt.put7 A0.out (wr_u64 (v := a.cookie) (by  have := HN.out; have := HFW.out; simp only; omega) (ArgsV.good_cookie HG.out) p) (fun _ _ _ _ _ h => h) rfl (by kernel_rfl) (n := 144) rfl rfl rfl (by decide) enter_u64 (o := 30) (fun w => by go_simp) (fun w => load_u64 w _ _ _) (HBC.out 30) (fun F1 w1 A1 g1 => ?_)
  simp only [Act.put, List.setIfInBounds_toArray, List.set_cons_succ, List.set_cons_zero]
  replace A1 : Hid (OAt w1 c p F1 gb (s1, B)) := by rw [E1.out]; exact A1
  have G1 := hid (G0.out.trans g1.out); clear g1
  obtain ⟨s2, e2⟩ : ∃ z, z = oU64 a.cookieVerf s1 := ⟨_, rfl⟩
  have K2 : Hid (s2.size ≤ s1.size + 8) := by have h1 : s2.size ≤ s1.size + 8 := (by rw [e2]; exact size_oU64 _ _); exact h1
  have E2 := hid e2; clear e2
  go_upto_region 26 with fail
  refine OAt.put7 A1.out (wr_u64 (v := a.cookieVerf) (by have := K1.out; have := HN.out; have := HFW.out; simp only; omega) (ArgsV.good_cookieVerf HG.out) p) (fun _ _ _ _ _ h => h) rfl (by kernel_rfl) (n := 144) rfl rfl rfl (by decide) enter_u64 (o := 31) (fun w => by go_simp) (fun w => load_u64 w _ _ _) (HBC.out 31) (fun F2 w2 A2 g2 => ?_)
  simp only [Act.put, List.setIfInBounds_toArray, List.set_cons_succ, List.set_cons_zero]
  replace A2 : Hid (OAt w2 c p F2 gb (s2, B)) := by rw [E2.out]; exact A2
  have G2 := hid (G1.out.trans g2.out); clear g2
  obtain ⟨s3, e3⟩ : ∃ z, z = oU32 a.dirCount s2 := ⟨_, rfl⟩
  have K3 : Hid (s3.size ≤ s2.size + 4) := by have h1 : s3.size ≤ s2.size + 4 := (by rw [e3]; exact size_oU32 _ _); exact h1
  have E3 := hid e3; clear e3
  go_upto_region 29 with fail
  refine OAt.put7 A2.out (wr_u32 (v := a.dirCount) (by have := K1.out; have := K2.out; have := HN.out; have := HFW.out; simp only; omega) (ArgsV.good_dirCount HG.out) p) (fun _ _ _ _ _ h => h) rfl (by kernel_rfl) (n := 144) rfl rfl rfl (by decide) enter_u32 (o := 32) (fun w => by go_simp) (fun w => load_u32 w _ _ _) (HBC.out 32) (fun F3 w3 A3 g3 => ?_)
  simp only [Act.put, List.setIfInBounds_toArray, List.set_cons_succ, List.set_cons_zero]
  replace A3 : Hid (OAt w3 c p F3 gb (s3, B)) := by rw [E3.out]; exact A3
  have G3 := hid (G2.out.trans g3.out); clear g3
  obtain ⟨s4, e4⟩ : ∃ z, z = oU32 a.maxCount s3 := ⟨_, rfl⟩
  have K4 : Hid (s4.size ≤ s3.size + 4) := by have h1 : s4.size ≤ s3.size + 4 := (by rw [e4]; exact size_oU32 _ _); exact h1
  have E4 := hid e4; clear e4
  go_upto_region 30 with fail
  refine OAt.put7 A3.out (wr_u32 (v := a.maxCount) (by have := K1.out; have := K2.out; have := K3.out; have := HN.out; have := HFW.out; simp only; omega) (ArgsV.good_maxCount HG.out) p) (fun _ _ _ _ _ h => h) rfl (by kernel_rfl) (n := 144) rfl rfl rfl (by decide) enter_u32 (o := 33) (fun w => by go_simp) (fun w => load_u32 w _ _ _) (HBC.out 33) (fun F4 w4 A4 g4 => ?_)
  simp only [Act.put, List.setIfInBounds_toArray, List.set_cons_succ, List.set_cons_zero]
  replace A4 : Hid (OAt w4 c p F4 gb (s4, B)) := by rw [E4.out]; exact A4
  have G4 := hid (G3.out.trans g4.out); clear g4
  go_wp2
  go_end0
  have h2 := H.out.other HM0.out (Nat.le_of_eq HG1.out.symm) A4.out (by rw [← HF0.out]; exact G4.out)
  have hend : oMore 17 a x.1 = s4 := by rw [E4.out, E3.out, E2.out, E1.out, ← HS0.out]; simp [oMore]
  rw [hend]
  exact ⟨rfl, F4, h2.1, h2.2⟩

set_option maxRecDepth 100000 in
set_option maxHeartbeats 4000000 in
theorem more_out_no (c p : Nat) (F : Nat → Prop) (g : Nat) (x : X) (q : Int) (hq : q ≠ 8 ∧ q ≠ 9 ∧ q ≠ 10 ∧ q ≠ 11 ∧ q ≠ 14 ∧ q ≠ 15 ∧ q ≠ 16 ∧ q ≠ 17) (a : ArgsV) (dv : Value) (w : World) (h : OAt w c p F g x) (hs : x.1.size + a.len + 300 ≤ 1000000) (hg : a.good) :
    Calls Try.prog 45 #[.pointer (some ⟨c, 0, none⟩), .int .i64 q, .agg (a.cells dv).toArray] w (OQ w c p F g (oMore q a x.1, x.2)) := by
  have HG := hid hg; clear hg
  obtain ⟨A, hAe⟩ : ∃ A, A = (a.cells dv).toArray := ⟨_, rfl⟩
  rw [← hAe]
  have hA1 : A[0]? = some (.string (str a.file)) := by rw [hAe]; rfl
  have HA := hid hAe
  clear hAe
  obtain ⟨B, hB⟩ : ∃ B : Cells, B = fun j => (a.cells dv)[j]? := ⟨_, rfl⟩
  have HB := hid hB; clear hB
  obtain ⟨s0, hs0⟩ : ∃ s0, s0 = x.1 := ⟨_, rfl⟩
  have HN : Hid (s0.size + a.len + 300 ≤ 1000000) := by rw [hs0]; exact hs
  have HFW : Hid (a.path.length + a.to.length + a.toName.length ≤ a.len) := by show _ ≤ _; unfold ArgsV.len; omega
  have H := hid h; have HS0 := hid hs0
  clear h hs hs0
  go_enter Try.func45, Try.ntmps45
  go_upto_region 1 with fail
  have hm0 : Mods (fun _ => False) w (w.alloc (.cells A 30)) := Mods.alloc _ _ _
  have hbl : Blk (w.alloc (.cells A 30)) w.heap.size B := (Blk.new w A _).congr (by funext j; rw [HA.out, HB.out]; simp)
  have h1 : OAt (w.alloc (.cells A 30)) c p F w.heap.size (s0, B) := ⟨by rw [HS0.out]; exact H.out.co.keep hm0 fun _ _ h => h, hbl, fun hf => by have := H.out.co.lt _ hf; omega⟩
  generalize w.alloc (.cells A 30) = w0 at hm0 h1 ⊢
  have HM0 := hid hm0
  have A0 := hid h1
  obtain ⟨gb, hgb⟩ : ∃ gb, gb = w.heap.size := ⟨_, rfl⟩
  rw [← hgb] at A0 ⊢
  have HG1 := hid hgb
  obtain ⟨F0, hF0⟩ : ∃ F0, F0 = F := ⟨_, rfl⟩
  rw [← hF0] at A0
  have HF0 := hid hF0
  have G0 : Hid (GG w0 F0 gb w0 F0) := GG.refl _ _ _
  have BC : ∀ j, B j = (a.cells dv)[j]? := fun j => by rw [HB.out]
  have HBC := hid BC
  clear hm0 hbl h1 hA1 hgb hF0 BC
  have n8 : (q == 8) = false := by simpa using hq.1
  have n9 : (q == 9) = false := by simpa using hq.2.1
  have n10 : (q == 10) = false := by simpa using hq.2.2.1
  have n11 : (q == 11) = false := by simpa using hq.2.2.2.1
  have n14 : (q == 14) = false := by simpa using hq.2.2.2.2.1
  have n15 : (q == 15) = false := by simpa using hq.2.2.2.2.2.1
  have n16 : (q == 16) = false := by simpa using hq.2.2.2.2.2.2.1
  have n17 : (q == 17) = false := by simpa using hq.2.2.2.2.2.2.2
  have HQ := hid hq; clear hq
  go_wp2
  go_end0
  have h2 := H.out.other HM0.out (Nat.le_of_eq HG1.out.symm) A0.out (by rw [← HF0.out]; exact G0.out)
  have hend : oMore q a x.1 = s0 := by rw [← HS0.out]; simp [oMore, HQ.out]
  rw [hend]
  exact ⟨rfl, F0, h2.1, h2.2⟩

theorem more_out (c p : Nat) (F : Nat → Prop) (g : Nat) (x : X) (q : Int) (a : ArgsV) (dv : Value) (w : World) (h : OAt w c p F g x) (hs : x.1.size + a.len + 300 ≤ 1000000) (hg : a.good) :
    Calls Try.prog 45 #[.pointer (some ⟨c, 0, none⟩), .int .i64 q, .agg (a.cells dv).toArray] w (OQ w c p F g (oMore q a x.1, x.2)) := by
  by_cases hq : q ≠ 8 ∧ q ≠ 9 ∧ q ≠ 10 ∧ q ≠ 11 ∧ q ≠ 14 ∧ q ≠ 15 ∧ q ≠ 16 ∧ q ≠ 17
  · exact more_out_no c p F g x q hq a dv w h hs hg
  · have hc : q = 8 ∨ q = 9 ∨ q = 10 ∨ q = 11 ∨ q = 14 ∨ q = 15 ∨ q = 16 ∨ q = 17 := by omega
    rcases hc with rfl | rfl | rfl | rfl | rfl | rfl | rfl | rfl
    · exact more_out_8 c p F g x a dv w h hs hg
    · exact more_out_9 c p F g x a dv w h hs hg
    · exact more_out_10 c p F g x a dv w h hs hg
    · exact more_out_11 c p F g x a dv w h hs hg
    · exact more_out_14 c p F g x a dv w h hs hg
    · exact more_out_15 c p F g x a dv w h hs hg
    · exact more_out_16 c p F g x a dv w h hs hg
    · exact more_out_17 c p F g x a dv w h hs hg

end Go.Proofs.Ytanknjpcgceccaa
