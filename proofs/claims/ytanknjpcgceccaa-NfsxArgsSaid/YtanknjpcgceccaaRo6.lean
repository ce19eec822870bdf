/- The reference's There, named, WriteArgs. (Printed by wip/tools/gen_ro6.py.) -/
import Derived.Test.YtanknjpcgceccaaRo5
namespace Go.Proofs.Ytanknjpcgceccaa
open Go.RowKit

def namedB (p : Int) : Bool := p == 3 || (decide (8 ≤ p) && decide (p ≤ 14))
def fileB (p : Int) : Bool := decide (1 ≤ p) && decide (p ≤ 21)
def oFront (p : Int) (a : ArgsV) (s : St) : St := oIf (namedB p) (oText 255 a.name) (oIf (fileB p) (oText 64 a.file) s)
def oBody (p : Int) (a : ArgsV) (s : St) : St :=
  if p = 2 then oIf a.guard (oTime a.guardTime) (oBool a.guard (oSet a.set s))
  else if p = 4 then oU32 a.access s
  else if p = 6 ∨ p = 21 then oU32 a.count (oU64 a.offset s)
  else if p = 7 then oText 8192 a.data (oNumber 0 2 a.stable (oU32 a.count (oU64 a.offset s)))
  else if p = 101 ∨ p = 103 then oText 1024 a.path s
  else oMore p a s
def oOut : St → List UInt8 × Int
  | .wr false out => (out, 0)
  | _ => ([], 33)
theorem size_oMore (q : Int) (a : ArgsV) (s : St) : (oMore q a s).size ≤ s.size + (a.len + 300) := by
  have b1 := size_oNumber 0 2 a.mode s
  have b2 := size_oNumber 1 7 a.type s
  have hl : a.path.length + a.to.length + a.toName.length ≤ a.len := by unfold ArgsV.len; omega
  unfold oMore
  split
  · split
    · have := size_oU64 a.verf (oNumber 0 2 a.mode s); omega
    · have := size_oSet a.set (oNumber 0 2 a.mode s); omega
  split
  · have := size_oSet a.set s; omega
  split
  · have := size_oText 1024 a.path (oSet a.set s); have := size_oSet a.set s; omega
  split
  · split
    · have := size_oU32 a.spec2 (oU32 a.spec1 (oSet a.set (oNumber 1 7 a.type s))); have := size_oU32 a.spec1 (oSet a.set (oNumber 1 7 a.type s)); have := size_oSet a.set (oNumber 1 7 a.type s); omega
    · split
      · have := size_oSet a.set (oNumber 1 7 a.type s); omega
      · omega
  split
  · have := size_oText 255 a.toName (oText 64 a.to s); have := size_oText 64 a.to s; omega
  split
  · have := size_oU32 a.count (oU64 a.cookieVerf (oU64 a.cookie s)); have := size_oU64 a.cookieVerf (oU64 a.cookie s); have := size_oU64 a.cookie s; omega
  split
  · have := size_oU32 a.maxCount (oU32 a.dirCount (oU64 a.cookieVerf (oU64 a.cookie s))); have := size_oU32 a.dirCount (oU64 a.cookieVerf (oU64 a.cookie s)); have := size_oU64 a.cookieVerf (oU64 a.cookie s); have := size_oU64 a.cookie s; omega
  · omega
/-- What the reference's WriteArgs gives. -/
def owargs (p : Int) (a : ArgsV) : List UInt8 × Int := if there p then oOut (oBody p a (oFront p a (.wr false []))) else ([], 36)

theorem RThere_any (p : Int) (w : World) : Calls Try.prog 24 #[.int .i64 p] w fun e w' => e = .returned (.bool (there p)) ∧ w = w' := by
  have key : ∀ (b0 b1 b2 b3 : Bool), decide (0 ≤ p) = b0 → decide (p ≤ 21) = b1 → decide (100 ≤ p) = b2 → decide (p ≤ 105) = b3 → Calls Try.prog 24 #[.int .i64 p] w fun e w' => e = .returned (.bool ((b0 && b1) || (b2 && b3))) ∧ w = w' := by
    intro b0 b1 b2 b3 h0 h1 h2 h3
    cases b0 <;> cases b1 <;> cases b2 <;> cases b3
    all_goals
      simp only [decide_eq_true_eq, decide_eq_false_iff_not] at h0 h1 h2 h3
      go_enter Try.func24, Try.ntmps24
      go_wp2
      go_ret
      exact ⟨rfl, rfl⟩
  exact key _ _ _ _ rfl rfl rfl rfl
theorem Rnamed_any (p : Int) (w : World) : Calls Try.prog 26 #[.int .i64 p] w fun e w' => e = .returned (.bool (namedB p)) ∧ w = w' := by
  have key : ∀ (b0 b1 b2 : Bool), (p == 3) = b0 → decide (8 ≤ p) = b1 → decide (p ≤ 14) = b2 → Calls Try.prog 26 #[.int .i64 p] w fun e w' => e = .returned (.bool (b0 || (b1 && b2))) ∧ w = w' := by
    intro b0 b1 b2 h0 h1 h2
    cases b0 <;> cases b1 <;> cases b2
    all_goals
      simp only [decide_eq_true_eq, decide_eq_false_iff_not] at h1 h2
      go_enter Try.func26, Try.ntmps26
      go_wp2
      go_ret
      exact ⟨rfl, rfl⟩
  exact key _ _ _ rfl rfl rfl

theorem obj_one {w : World} {k : Nat} {v : Value} {t : TypeId} (h : w.heap[k]? = some (.cells #[v] t (0, 0))) : w.cell? ⟨k, 0, none⟩ = some v ∧ w.frozen? ⟨k, 0, none⟩ = false := by simp [World.cell?, World.frozen?, h]
theorem OAt.new (w : World) (A : Array Value) : OAt (((w.alloc (.cells A 30)).alloc (.cells #[.slice none 0 0] 91)).alloc (.cells #[.pointer (some ⟨w.heap.size + 1, 0, none⟩), .bool false] 93)) (w.heap.size + 1 + 1) (w.heap.size + 1) (FC (w.heap.size + 1 + 1) (w.heap.size + 1) none) w.heap.size (.wr false [], fun j => A[j]?) := by
  have hm : Mods (fun _ => False) (w.alloc (.cells A 30)) (((w.alloc (.cells A 30)).alloc (.cells #[.slice none 0 0] 91)).alloc (.cells #[.pointer (some ⟨w.heap.size + 1, 0, none⟩), .bool false] 93)) := (Mods.alloc _ _ _).trans (Mods.alloc _ _ _)
  refine ⟨⟨false, [], none, 0, rfl, ⟨?_, ?_, by omega, fun h => h⟩, rfl⟩, (Blk.new w A _).keep hm fun h => h, fun h => ?_⟩
  · have := heap_alloc_new ((w.alloc (.cells A 30)).alloc (.cells #[.slice none 0 0] 91)) (.cells #[.pointer (some ⟨w.heap.size + 1, 0, none⟩), .bool false] 93)
    simpa using this
  · have hm2 : Mods (fun _ => False) ((w.alloc (.cells A 30)).alloc (.cells #[.slice none 0 0] 91)) (((w.alloc (.cells A 30)).alloc (.cells #[.slice none 0 0] 91)).alloc (.cells #[.pointer (some ⟨w.heap.size + 1, 0, none⟩), .bool false] 93)) := Mods.alloc _ _ _
    have hob : ((w.alloc (.cells A 30)).alloc (.cells #[.slice none 0 0] 91)).heap[w.heap.size + 1]? = some (.cells #[.slice none 0 0] 91 (0, 0)) := by
      have := heap_alloc_new (w.alloc (.cells A 30)) (.cells #[.slice none 0 0] 91)
      simpa using this
    have hob2 := hm2.obj hob (fun h => h)
    exact ⟨(obj_one hob2).1, (obj_one hob2).2, OwnB.nil _, fun h => h⟩
  · rcases h with h | h | h
    · omega
    · omega
    · exact h

set_option maxRecDepth 100000 in
set_option maxHeartbeats 8000000 in
theorem RWriteArgs_yes (q : Int) (hq : there q = true) (a : ArgsV) (xo : Option Addr) (xc : Nat) (w : World) (hd : SlB w xo xc a.data) (hb : ∀ k, rb xo a.data.length k → k < w.heap.size) (hg : a.good) (hlen : a.len ≤ 400000) :
    Calls Try.prog 13 #[.int .i64 q, .agg (a.cells (.slice xo a.data.length xc)).toArray] w fun e w' => ∃ yo yc, e = .returned (.tuple #[.slice yo (oOut (oBody q a (oFront q a (.wr false [])))).1.length yc, .int .i64 (oOut (oBody q a (oFront q a (.wr false [])))).2]) ∧
      OwnB w' yo yc (oOut (oBody q a (oFront q a (.wr false [])))).1 ∧ Mods (fun _ => False) w w' ∧ (∀ k, blk yo k → w.heap.size ≤ k) ∧ (oOut (oBody q a (oFront q a (.wr false [])))).1.length ≤ 1000000 := by
  have HG := hid hg; have HDA := hid hd; have HBL := hid hb
  have HFW : Hid (a.path.length + a.to.length + a.toName.length + a.file.length + a.name.length + a.data.length ≤ a.len ∧ a.len ≤ 400000) := ⟨by unfold ArgsV.len; omega, hlen⟩
  have HTH := hid (RThere_any q); rw [hq] at HTH
  have HNM := hid (Rnamed_any q)
  clear hg hd hb hlen
  obtain ⟨A, hAe⟩ : ∃ A, A = (a.cells (.slice xo a.data.length xc)).toArray := ⟨_, rfl⟩
  rw [← hAe]
  have hA1 : A[0]? = some (.string (str a.file)) := by rw [hAe]; rfl
  have HA := hid hAe
  obtain ⟨B, hB⟩ : ∃ B : Cells, B = fun j => A[j]? := ⟨_, rfl⟩
  have HBC : Hid (∀ j, B j = (a.cells (.slice xo a.data.length xc))[j]?) := fun j => by rw [hB, hAe]; simp
  have HB := hid hB
  clear hAe hB hq
  obtain ⟨sz, hsz⟩ : ∃ z, z = St.wr false [] := ⟨_, rfl⟩
  rw [← hsz]
  have HSZ0 : Hid (sz.size = 0) := by rw [hsz]; rfl
  obtain ⟨fb, hfb⟩ : ∃ b, b = fileB q := ⟨_, rfl⟩
  obtain ⟨nb, hnb⟩ : ∃ b, b = namedB q := ⟨_, rfl⟩
  rw [← hnb] at HNM
  obtain ⟨sf, hsf⟩ : ∃ z, z = oIf fb (oText 64 a.file) sz := ⟨_, rfl⟩
  have KF : Hid (sf.size ≤ a.file.length + 8) := by have h1 : sf.size ≤ sz.size + (a.file.length + 8) := (by rw [hsf]; exact size_oIf (size_oText _ _ _)); have h2 := HSZ0.out; exact (by omega : sf.size ≤ a.file.length + 8)
  obtain ⟨s0, hsn⟩ : ∃ z, z = oFront q a sz := ⟨_, rfl⟩
  have hsn2 : s0 = oIf nb (oText 255 a.name) sf := by rw [hsn, oFront, hnb, hsf, hfb]
  have HN : Hid (s0.size ≤ a.file.length + a.name.length + 16) := by have h1 : s0.size ≤ sf.size + (a.name.length + 8) := (by rw [hsn2]; exact size_oIf (size_oText _ _ _)); have h2 := KF.out; exact (by omega : s0.size ≤ a.file.length + a.name.length + 16)
  rw [← hsn]
  have HSF := hid hsf; have HSN := hid hsn2; have HS := hid hsz; have HFB := hid hfb
  clear hsf hsn hsn2 hsz hnb hfb
  go_enter Try.func13, Try.ntmps13
  go_wp2_with fail
  refine (HTH.out _).mono ?_
  rintro e w1 ⟨rfl, rfl⟩
  go_upto_region 4 with fail
  have hat := OAt.new w A
  have hm0 : Mods (fun _ => False) w (((w.alloc (.cells A 30)).alloc (.cells #[.slice none 0 0] 91)).alloc (.cells #[.pointer (some ⟨w.heap.size + 1, 0, none⟩), .bool false] 93)) := ((Mods.alloc _ _ _).trans (Mods.alloc _ _ _)).trans (Mods.alloc _ _ _)
  have hsz0 : w.heap.size ≤ (((w.alloc (.cells A 30)).alloc (.cells #[.slice none 0 0] 91)).alloc (.cells #[.pointer (some ⟨w.heap.size + 1, 0, none⟩), .bool false] 93)).heap.size := hm0.size
  generalize ((w.alloc (.cells A 30)).alloc (.cells #[.slice none 0 0] 91)).alloc (.cells #[.pointer (some ⟨w.heap.size + 1, 0, none⟩), .bool false] 93) = wi at hat hm0 hsz0 ⊢
  obtain ⟨gb, hgb⟩ : ∃ z, z = w.heap.size := ⟨_, rfl⟩
  obtain ⟨c, hc⟩ : ∃ z, z = w.heap.size + 1 + 1 := ⟨_, rfl⟩
  obtain ⟨p, hp⟩ : ∃ z, z = w.heap.size + 1 := ⟨_, rfl⟩
  rw [← hc, ← hp, ← hgb] at hat
  rw [← hc, ← hp, ← hgb]
  obtain ⟨Fi, hF0⟩ : ∃ Fi, Fi = FC c p none := ⟨_, rfl⟩
  have HNF : Hid (∀ j, Fi j → w.heap.size ≤ j) := fun j hj => by
    rw [hF0] at hj
    rcases hj with rfl | rfl | hj
    · omega
    · omega
    · exact hj.elim
  have HGB : Hid (w.heap.size ≤ gb) := Nat.le_of_eq hgb.symm
  rw [← hF0] at hat
  have Ai : Hid (OAt wi c p Fi gb (sz, B)) := by rw [HB.out, HS.out]; exact hat
  have Gi : Hid (GG wi Fi gb wi Fi) := GG.refl _ _ _
  have HM0 := hid hm0; have HSZ := hid hsz0
  clear hat hm0 hsz0 hc hp hF0 hA1 HTH hgb
  go_cut [19] from 7 (fun v wx => v = .bool fb ∧ wi = wx)
  case first =>
    have key : ∀ (b0 b1 : Bool), decide (1 ≤ q) = b0 → decide (q ≤ 21) = b1 → fb = (b0 && b1) := fun b0 b1 h0 h1 => by rw [← h0, ← h1]; exact HFB.out
    have KEY := hid key; clear key
    by_cases h0 : 1 ≤ q
    · by_cases h1 : q ≤ 21
      · go_wp2_with fail
        go_meet
        case rel => exact ⟨by rw [KEY.out true true (decide_eq_true h0) (decide_eq_true h1)]; rfl, rfl⟩
      · go_wp2_with fail
        go_meet
        case rel => exact ⟨by rw [KEY.out true false (decide_eq_true h0) (decide_eq_false (by omega))]; rfl, rfl⟩
    · go_wp2_with fail
      go_meet
      case rel => exact ⟨by rw [KEY.out false _ (decide_eq_false (by omega)) rfl]; rfl, rfl⟩
  case rest =>
    obtain ⟨rfl, rfl⟩ := hcut
    go_upto_if 19 with fail
    go_cut [] from 7 (fun wx => ∃ F', Hid (OAt wx c p F' gb (sf, B)) ∧ Hid (GG wi Fi gb wx F'))
    case first =>
      cases fb
      · have HY : Hid (sf = sz) := HSF.out
        go_wp2_with fail
        go_meet
        case rel => obtain rfl := HY.out; exact ⟨Fi, Ai, Gi⟩
      · have HY : Hid (sf = oText 64 a.file sz) := HSF.out
        have D := hid (text_out c p Fi gb _ a.file 64 _ Ai.out (by have := HFW.out; have := HSZ0.out; simp only; omega))
        have hcf : World.cell? _ ⟨gb, 0, none⟩ = some (.string (str a.file)) := (Ai.out.bl.cell 0).trans (HBC.out 0)
        go_wp2_with fail
        refine D.out.mono ?_
        rintro e w2 ⟨rfl, F2, A2, g2⟩
        clear D hcf
        replace A2 : Hid (OAt w2 c p F2 gb (sf, B)) := by rw [HY.out]; exact A2
        have G2 := hid (Gi.out.trans g2.out); clear g2
        go_wp2_with fail
        go_meet
        case rel => exact ⟨F2, A2, G2⟩
    case rest =>
      obtain ⟨F1, A1, G1⟩ := hcut
      go_wp2_with fail
      refine (HNM.out _).mono ?_
      rintro e w1 ⟨rfl, rfl⟩
      go_upto_if 25 with fail
      go_cut [] from 7 (fun wx => ∃ F', Hid (OAt wx c p F' gb (s0, B)) ∧ Hid (GG wi Fi gb wx F'))
      case first =>
        cases nb
        · have HY : Hid (s0 = sf) := HSN.out
          go_wp2_with fail
          go_meet
          case rel => obtain rfl := HY.out; exact ⟨F1, A1, G1⟩
        · have HY : Hid (s0 = oText 255 a.name sf) := HSN.out
          have D := hid (text_out c p F1 gb _ a.name 255 _ A1.out (by have := HFW.out; have := KF.out; simp only; omega))
          have hcf : World.cell? _ ⟨gb, 2, none⟩ = some (.string (str a.name)) := (A1.out.bl.cell 2).trans (HBC.out 2)
          go_wp2_with fail
          refine D.out.mono ?_
          rintro e w2 ⟨rfl, F2, A2, g2⟩
          clear D hcf
          replace A2 : Hid (OAt w2 c p F2 gb (s0, B)) := by rw [HY.out]; exact A2
          have G2 := hid (G1.out.trans g2.out); clear g2
          go_wp2_with fail
          go_meet
          case rel => exact ⟨F2, A2, G2⟩
      case rest =>
        clear Ai A1 Gi G1 F1 KF HSF HSN HNM HFB
        obtain ⟨F0, A0, G0⟩ := hcut
        by_cases h2 : q = 2
        · subst h2
          clear HDA HBL
          obtain ⟨s1, e1⟩ : ∃ z, z = oSet a.set s0 := ⟨_, rfl⟩
          have K1 : Hid (s1.size ≤ s0.size + 60) := by have h1 : s1.size ≤ s0.size + 60 := (by rw [e1]; exact size_oSet _ _); exact h1
          have E1 := hid e1; clear e1
          have D := hid (set_out c p F0 gb _ a.set _ A0.out (by  have := HN.out; have := HFW.out; simp only; omega) (ArgsV.good_set HG.out))
          have hc0 : World.cell? _ ⟨gb, 5, none⟩ = some (.bool a.set.hasMode) := (A0.out.bl.cell 5).trans (HBC.out 5)
          have hc1 : World.cell? _ ⟨gb, 6, none⟩ = some (.bool a.set.hasUid) := (A0.out.bl.cell 6).trans (HBC.out 6)
          have hc2 : World.cell? _ ⟨gb, 7, none⟩ = some (.bool a.set.hasGid) := (A0.out.bl.cell 7).trans (HBC.out 7)
          have hc3 : World.cell? _ ⟨gb, 8, none⟩ = some (.bool a.set.hasSize) := (A0.out.bl.cell 8).trans (HBC.out 8)
          have hc4 : World.cell? _ ⟨gb, 9, none⟩ = some (.int .i64 a.set.mode) := (A0.out.bl.cell 9).trans (HBC.out 9)
          have hc5 : World.cell? _ ⟨gb, 10, none⟩ = some (.int .u32 a.set.uid) := (A0.out.bl.cell 10).trans (HBC.out 10)
          have hc6 : World.cell? _ ⟨gb, 11, none⟩ = some (.int .u32 a.set.gid) := (A0.out.bl.cell 11).trans (HBC.out 11)
          have hc7 : World.cell? _ ⟨gb, 12, none⟩ = some (.int .u64 a.set.size) := (A0.out.bl.cell 12).trans (HBC.out 12)
          have hc8 : World.cell? _ ⟨gb, 13, none⟩ = some (.int .i64 a.set.atimeHow) := (A0.out.bl.cell 13).trans (HBC.out 13)
          have hc9 : World.cell? _ ⟨gb, 14, none⟩ = some (.int .i64 a.set.mtimeHow) := (A0.out.bl.cell 14).trans (HBC.out 14)
          have hc10 : World.cell? _ ⟨gb, 15, none⟩ = some (.int .u32 a.set.atime.sec) := (A0.out.bl.cell 15).trans (HBC.out 15)
          have hc11 : World.cell? _ ⟨gb, 16, none⟩ = some (.int .u32 a.set.atime.nsec) := (A0.out.bl.cell 16).trans (HBC.out 16)
          have hc12 : World.cell? _ ⟨gb, 17, none⟩ = some (.int .u32 a.set.mtime.sec) := (A0.out.bl.cell 17).trans (HBC.out 17)
          have hc13 : World.cell? _ ⟨gb, 18, none⟩ = some (.int .u32 a.set.mtime.nsec) := (A0.out.bl.cell 18).trans (HBC.out 18)
          go_wp2_with fail
          refine D.out.mono ?_
          rintro e w1 ⟨rfl, F1, A1, g1⟩
          clear D hc0 hc1 hc2 hc3 hc4 hc5 hc6 hc7 hc8 hc9 hc10 hc11 hc12 hc13
          replace A1 : Hid (OAt w1 c p F1 gb (s1, B)) := by rw [E1.out]; exact A1
          have G1 := hid (G0.out.trans g1.out); clear g1
          obtain ⟨s2, e2⟩ : ∃ z, z = oBool a.guard s1 := ⟨_, rfl⟩
          have K2 : Hid (s2.size ≤ s1.size + 4) := by have h1 : s2.size ≤ s1.size + 4 := (by rw [e2]; exact size_oBool _ _); exact h1
          have E2 := hid e2; clear e2
          go_upto_region 12 with fail
          refine OAt.put7 A1.out (wr_bool (v := a.guard) (by have := K1.out; have := HN.out; have := HFW.out; simp only; omega) p) (fun _ _ _ _ _ h => h) rfl (by kernel_rfl) (n := 110) rfl rfl rfl (by decide) enter_bool (o := 19) (fun w => by go_simp) (fun w => load_bool w _ _ _) (HBC.out 19) (fun F2 w2 A2 g2 => ?_)
          simp only [Act.put, List.setIfInBounds_toArray, List.set_cons_succ, List.set_cons_zero]
          replace A2 : Hid (OAt w2 c p F2 gb (s2, B)) := by rw [E2.out]; exact A2
          have G2 := hid (G1.out.trans g2.out); clear g2
          have hc0 : World.cell? _ ⟨gb, 19, none⟩ = some (.bool a.guard) := (A2.out.bl.cell 19).trans (HBC.out 19)
          rcases hbb : a.guard with _ | _
          · rw [hbb] at hc0
            have HBB := hid hbb; clear hbb
            go_upto_region 28 with fail
            clear hc0
            have hend : oBody 2 a s0 = s2 := by rw [E2.out, E1.out]; simp [oBody, oIf, HBB.out]
            have HEND := hid hend; clear hend
            obtain ⟨bad, out, ao, cap, hst, how, hFe⟩ := A2.out.co
            have HST : Hid (oBody 2 a s0 = .wr bad out) := by rw [HEND.out]; exact hst
            have hb1 := how.c1; have hb0 := how.c0; have hbw := how.wr.cell
            have HOWN := hid how.wr.own; have HOL : Hid (out.length ≤ 1000000) := by have h1 : s2.size = out.length := (by rw [show s2 = _ from hst]; rfl); have := K1.out; have := K2.out; have := HN.out; have := HFW.out; show _ ≤ _; rw [← h1]; omega
            have hnew : ∀ j, blk ao j → w.heap.size ≤ j := fun j hj => by
              rcases G2.out.fresh j (by rw [hFe]; exact .inr (.inr hj)) with h1 | h1
              · exact HNF.out j h1
              · exact Nat.le_trans HSZ.out h1
            have hmods := HM0.out.step G2.out.mods fun j hj hf => by
              rcases hf with hf | hf
              · have := HNF.out j hf; omega
              · have := HGB.out; omega
            have HNEW := hid hnew; have HMODS := hid hmods
            clear hst how hFe hnew hmods HEND
            cases bad
            · go_wp2
              go_ret2
              rw [HST.out]
              exact ⟨ao, cap, rfl, HOWN.out, HMODS.out, HNEW.out, HOL.out⟩
            · clear hbw hb0
              go_wp2
              go_ret2
              rw [HST.out]
              exact ⟨none, 0, rfl, OwnB.nil _, HMODS.out, fun k hk => hk.elim, Nat.zero_le _⟩
          · rw [hbb] at hc0
            have HBB := hid hbb; clear hbb
            obtain ⟨s3, e3⟩ : ∃ z, z = oTime a.guardTime s2 := ⟨_, rfl⟩
            have K3 : Hid (s3.size ≤ s2.size + 8) := by have h1 : s3.size ≤ s2.size + 8 := (by rw [e3]; exact size_oTime _ _); exact h1
            have E3 := hid e3; clear e3
            have D := hid (time_out c p F2 gb _ a.guardTime _ A2.out (by have := K1.out; have := K2.out; have := HN.out; have := HFW.out; simp only; omega) (ArgsV.good_guardTime HG.out))
            have hc1 : World.cell? _ ⟨gb, 20, none⟩ = some (.int .u32 a.guardTime.sec) := (A2.out.bl.cell 20).trans (HBC.out 20)
            have hc2 : World.cell? _ ⟨gb, 21, none⟩ = some (.int .u32 a.guardTime.nsec) := (A2.out.bl.cell 21).trans (HBC.out 21)
            go_wp2_with fail
            refine D.out.mono ?_
            rintro e w3 ⟨rfl, F3, A3, g3⟩
            clear D hc1 hc2
            replace A3 : Hid (OAt w3 c p F3 gb (s3, B)) := by rw [E3.out]; exact A3
            have G3 := hid (G2.out.trans g3.out); clear g3
            clear hc0
            have hend : oBody 2 a s0 = s3 := by rw [E3.out, E2.out, E1.out]; simp [oBody, oIf, HBB.out]
            have HEND := hid hend; clear hend
            obtain ⟨bad, out, ao, cap, hst, how, hFe⟩ := A3.out.co
            have HST : Hid (oBody 2 a s0 = .wr bad out) := by rw [HEND.out]; exact hst
            have hb1 := how.c1; have hb0 := how.c0; have hbw := how.wr.cell
            have HOWN := hid how.wr.own; have HOL : Hid (out.length ≤ 1000000) := by have h1 : s3.size = out.length := (by rw [show s3 = _ from hst]; rfl); have := K1.out; have := K2.out; have := K3.out; have := HN.out; have := HFW.out; show _ ≤ _; rw [← h1]; omega
            have hnew : ∀ j, blk ao j → w.heap.size ≤ j := fun j hj => by
              rcases G3.out.fresh j (by rw [hFe]; exact .inr (.inr hj)) with h1 | h1
              · exact HNF.out j h1
              · exact Nat.le_trans HSZ.out h1
            have hmods := HM0.out.step G3.out.mods fun j hj hf => by
              rcases hf with hf | hf
              · have := HNF.out j hf; omega
              · have := HGB.out; omega
            have HNEW := hid hnew; have HMODS := hid hmods
            clear hst how hFe hnew hmods HEND
            cases bad
            · go_wp2
              go_ret2
              rw [HST.out]
              exact ⟨ao, cap, rfl, HOWN.out, HMODS.out, HNEW.out, HOL.out⟩
            · clear hbw hb0
              go_wp2
              go_ret2
              rw [HST.out]
              exact ⟨none, 0, rfl, OwnB.nil _, HMODS.out, fun k hk => hk.elim, Nat.zero_le _⟩
        by_cases h4 : q = 4
        · subst h4
          clear h2
          clear HDA HBL
          obtain ⟨s1, e1⟩ : ∃ z, z = oU32 a.access s0 := ⟨_, rfl⟩
          have K1 : Hid (s1.size ≤ s0.size + 4) := by have h1 : s1.size ≤ s0.size + 4 := (by rw [e1]; exact size_oU32 _ _); exact h1
          have E1 := hid e1; clear e1
          go_upto_region 16 with fail
          refine OAt.put7 A0.out (wr_u32 (v := a.access) (by  have := HN.out; have := HFW.out; simp only; omega) (ArgsV.good_access HG.out) p) (fun _ _ _ _ _ h => h) rfl (by kernel_rfl) (n := 110) rfl rfl rfl (by decide) enter_u32 (o := 22) (fun w => by go_simp) (fun w => load_u32 w _ _ _) (HBC.out 22) (fun F1 w1 A1 g1 => ?_)
          simp only [Act.put, List.setIfInBounds_toArray, List.set_cons_succ, List.set_cons_zero]
          replace A1 : Hid (OAt w1 c p F1 gb (s1, B)) := by rw [E1.out]; exact A1
          have G1 := hid (G0.out.trans g1.out); clear g1
          have hend : oBody 4 a s0 = s1 := by rw [E1.out]; simp [oBody]
          have HEND := hid hend; clear hend
          obtain ⟨bad, out, ao, cap, hst, how, hFe⟩ := A1.out.co
          have HST : Hid (oBody 4 a s0 = .wr bad out) := by rw [HEND.out]; exact hst
          have hb1 := how.c1; have hb0 := how.c0; have hbw := how.wr.cell
          have HOWN := hid how.wr.own; have HOL : Hid (out.length ≤ 1000000) := by have h1 : s1.size = out.length := (by rw [show s1 = _ from hst]; rfl); have := K1.out; have := HN.out; have := HFW.out; show _ ≤ _; rw [← h1]; omega
          have hnew : ∀ j, blk ao j → w.heap.size ≤ j := fun j hj => by
            rcases G1.out.fresh j (by rw [hFe]; exact .inr (.inr hj)) with h1 | h1
            · exact HNF.out j h1
            · exact Nat.le_trans HSZ.out h1
          have hmods := HM0.out.step G1.out.mods fun j hj hf => by
            rcases hf with hf | hf
            · have := HNF.out j hf; omega
            · have := HGB.out; omega
          have HNEW := hid hnew; have HMODS := hid hmods
          clear hst how hFe hnew hmods HEND
          cases bad
          · go_wp2
            go_ret2
            rw [HST.out]
            exact ⟨ao, cap, rfl, HOWN.out, HMODS.out, HNEW.out, HOL.out⟩
          · clear hbw hb0
            go_wp2
            go_ret2
            rw [HST.out]
            exact ⟨none, 0, rfl, OwnB.nil _, HMODS.out, fun k hk => hk.elim, Nat.zero_le _⟩
        by_cases h6 : q = 6
        · subst h6
          clear h2 h4
          clear HDA HBL
          obtain ⟨s1, e1⟩ : ∃ z, z = oU64 a.offset s0 := ⟨_, rfl⟩
          have K1 : Hid (s1.size ≤ s0.size + 8) := by have h1 : s1.size ≤ s0.size + 8 := (by rw [e1]; exact size_oU64 _ _); exact h1
          have E1 := hid e1; clear e1
          go_upto_region 20 with fail
          refine OAt.put7 A0.out (wr_u64 (v := a.offset) (by  have := HN.out; have := HFW.out; simp only; omega) (ArgsV.good_offset HG.out) p) (fun _ _ _ _ _ h => h) rfl (by kernel_rfl) (n := 110) rfl rfl rfl (by decide) enter_u64 (o := 23) (fun w => by go_simp) (fun w => load_u64 w _ _ _) (HBC.out 23) (fun F1 w1 A1 g1 => ?_)
          simp only [Act.put, List.setIfInBounds_toArray, List.set_cons_succ, List.set_cons_zero]
          replace A1 : Hid (OAt w1 c p F1 gb (s1, B)) := by rw [E1.out]; exact A1
          have G1 := hid (G0.out.trans g1.out); clear g1
          obtain ⟨s2, e2⟩ : ∃ z, z = oU32 a.count s1 := ⟨_, rfl⟩
          have K2 : Hid (s2.size ≤ s1.size + 4) := by have h1 : s2.size ≤ s1.size + 4 := (by rw [e2]; exact size_oU32 _ _); exact h1
          have E2 := hid e2; clear e2
          go_upto_region 21 with fail
          refine OAt.put7 A1.out (wr_u32 (v := a.count) (by have := K1.out; have := HN.out; have := HFW.out; simp only; omega) (ArgsV.good_count HG.out) p) (fun _ _ _ _ _ h => h) rfl (by kernel_rfl) (n := 110) rfl rfl rfl (by decide) enter_u32 (o := 24) (fun w => by go_simp) (fun w => load_u32 w _ _ _) (HBC.out 24) (fun F2 w2 A2 g2 => ?_)
          simp only [Act.put, List.setIfInBounds_toArray, List.set_cons_succ, List.set_cons_zero]
          replace A2 : Hid (OAt w2 c p F2 gb (s2, B)) := by rw [E2.out]; exact A2
          have G2 := hid (G1.out.trans g2.out); clear g2
          have hend : oBody 6 a s0 = s2 := by rw [E2.out, E1.out]; simp [oBody]
          have HEND := hid hend; clear hend
          obtain ⟨bad, out, ao, cap, hst, how, hFe⟩ := A2.out.co
          have HST : Hid (oBody 6 a s0 = .wr bad out) := by rw [HEND.out]; exact hst
          have hb1 := how.c1; have hb0 := how.c0; have hbw := how.wr.cell
          have HOWN := hid how.wr.own; have HOL : Hid (out.length ≤ 1000000) := by have h1 : s2.size = out.length := (by rw [show s2 = _ from hst]; rfl); have := K1.out; have := K2.out; have := HN.out; have := HFW.out; show _ ≤ _; rw [← h1]; omega
          have hnew : ∀ j, blk ao j → w.heap.size ≤ j := fun j hj => by
            rcases G2.out.fresh j (by rw [hFe]; exact .inr (.inr hj)) with h1 | h1
            · exact HNF.out j h1
            · exact Nat.le_trans HSZ.out h1
          have hmods := HM0.out.step G2.out.mods fun j hj hf => by
            rcases hf with hf | hf
            · have := HNF.out j hf; omega
            · have := HGB.out; omega
          have HNEW := hid hnew; have HMODS := hid hmods
          clear hst how hFe hnew hmods HEND
          cases bad
          · go_wp2
            go_ret2
            rw [HST.out]
            exact ⟨ao, cap, rfl, HOWN.out, HMODS.out, HNEW.out, HOL.out⟩
          · clear hbw hb0
            go_wp2
            go_ret2
            rw [HST.out]
            exact ⟨none, 0, rfl, OwnB.nil _, HMODS.out, fun k hk => hk.elim, Nat.zero_le _⟩
        by_cases h21 : q = 21
        · subst h21
          clear h2 h4 h6
          clear HDA HBL
          obtain ⟨s1, e1⟩ : ∃ z, z = oU64 a.offset s0 := ⟨_, rfl⟩
          have K1 : Hid (s1.size ≤ s0.size + 8) := by have h1 : s1.size ≤ s0.size + 8 := (by rw [e1]; exact size_oU64 _ _); exact h1
          have E1 := hid e1; clear e1
          go_upto_region 20 with fail
          refine OAt.put7 A0.out (wr_u64 (v := a.offset) (by  have := HN.out; have := HFW.out; simp only; omega) (ArgsV.good_offset HG.out) p) (fun _ _ _ _ _ h => h) rfl (by kernel_rfl) (n := 110) rfl rfl rfl (by decide) enter_u64 (o := 23) (fun w => by go_simp) (fun w => load_u64 w _ _ _) (HBC.out 23) (fun F1 w1 A1 g1 => ?_)
          simp only [Act.put, List.setIfInBounds_toArray, List.set_cons_succ, List.set_cons_zero]
          replace A1 : Hid (OAt w1 c p F1 gb (s1, B)) := by rw [E1.out]; exact A1
          have G1 := hid (G0.out.trans g1.out); clear g1
          obtain ⟨s2, e2⟩ : ∃ z, z = oU32 a.count s1 := ⟨_, rfl⟩
          have K2 : Hid (s2.size ≤ s1.size + 4) := by have h1 : s2.size ≤ s1.size + 4 := (by rw [e2]; exact size_oU32 _ _); exact h1
          have E2 := hid e2; clear e2
          go_upto_region 21 with fail
          refine OAt.put7 A1.out (wr_u32 (v := a.count) (by have := K1.out; have := HN.out; have := HFW.out; simp only; omega) (ArgsV.good_count HG.out) p) (fun _ _ _ _ _ h => h) rfl (by kernel_rfl) (n := 110) rfl rfl rfl (by decide) enter_u32 (o := 24) (fun w => by go_simp) (fun w => load_u32 w _ _ _) (HBC.out 24) (fun F2 w2 A2 g2 => ?_)
          simp only [Act.put, List.setIfInBounds_toArray, List.set_cons_succ, List.set_cons_zero]
          replace A2 : Hid (OAt w2 c p F2 gb (s2, B)) := by rw [E2.out]; exact A2
          have G2 := hid (G1.out.trans g2.out); clear g2
          have hend : oBody 21 a s0 = s2 := by rw [E2.out, E1.out]; simp [oBody]
          have HEND := hid hend; clear hend
          obtain ⟨bad, out, ao, cap, hst, how, hFe⟩ := A2.out.co
          have HST : Hid (oBody 21 a s0 = .wr bad out) := by rw [HEND.out]; exact hst
          have hb1 := how.c1; have hb0 := how.c0; have hbw := how.wr.cell
          have HOWN := hid how.wr.own; have HOL : Hid (out.length ≤ 1000000) := by have h1 : s2.size = out.length := (by rw [show s2 = _ from hst]; rfl); have := K1.out; have := K2.out; have := HN.out; have := HFW.out; show _ ≤ _; rw [← h1]; omega
          have hnew : ∀ j, blk ao j → w.heap.size ≤ j := fun j hj => by
            rcases G2.out.fresh j (by rw [hFe]; exact .inr (.inr hj)) with h1 | h1
            · exact HNF.out j h1
            · exact Nat.le_trans HSZ.out h1
          have hmods := HM0.out.step G2.out.mods fun j hj hf => by
            rcases hf with hf | hf
            · have := HNF.out j hf; omega
            · have := HGB.out; omega
          have HNEW := hid hnew; have HMODS := hid hmods
          clear hst how hFe hnew hmods HEND
          cases bad
          · go_wp2
            go_ret2
            rw [HST.out]
            exact ⟨ao, cap, rfl, HOWN.out, HMODS.out, HNEW.out, HOL.out⟩
          · clear hbw hb0
            go_wp2
            go_ret2
            rw [HST.out]
            exact ⟨none, 0, rfl, OwnB.nil _, HMODS.out, fun k hk => hk.elim, Nat.zero_le _⟩
        by_cases h7 : q = 7
        · subst h7
          clear h2 h4 h6 h21
          obtain ⟨s1, e1⟩ : ∃ z, z = oU64 a.offset s0 := ⟨_, rfl⟩
          have K1 : Hid (s1.size ≤ s0.size + 8) := by have h1 : s1.size ≤ s0.size + 8 := (by rw [e1]; exact size_oU64 _ _); exact h1
          have E1 := hid e1; clear e1
          go_upto_region 20 with fail
          refine OAt.put7 A0.out (wr_u64 (v := a.offset) (by  have := HN.out; have := HFW.out; simp only; omega) (ArgsV.good_offset HG.out) p) (fun _ _ _ _ _ h => h) rfl (by kernel_rfl) (n := 110) rfl rfl rfl (by decide) enter_u64 (o := 23) (fun w => by go_simp) (fun w => load_u64 w _ _ _) (HBC.out 23) (fun F1 w1 A1 g1 => ?_)
          simp only [Act.put, List.setIfInBounds_toArray, List.set_cons_succ, List.set_cons_zero]
          replace A1 : Hid (OAt w1 c p F1 gb (s1, B)) := by rw [E1.out]; exact A1
          have G1 := hid (G0.out.trans g1.out); clear g1
          obtain ⟨s2, e2⟩ : ∃ z, z = oU32 a.count s1 := ⟨_, rfl⟩
          have K2 : Hid (s2.size ≤ s1.size + 4) := by have h1 : s2.size ≤ s1.size + 4 := (by rw [e2]; exact size_oU32 _ _); exact h1
          have E2 := hid e2; clear e2
          go_upto_region 21 with fail
          refine OAt.put7 A1.out (wr_u32 (v := a.count) (by have := K1.out; have := HN.out; have := HFW.out; simp only; omega) (ArgsV.good_count HG.out) p) (fun _ _ _ _ _ h => h) rfl (by kernel_rfl) (n := 110) rfl rfl rfl (by decide) enter_u32 (o := 24) (fun w => by go_simp) (fun w => load_u32 w _ _ _) (HBC.out 24) (fun F2 w2 A2 g2 => ?_)
          simp only [Act.put, List.setIfInBounds_toArray, List.set_cons_succ, List.set_cons_zero]
          replace A2 : Hid (OAt w2 c p F2 gb (s2, B)) := by rw [E2.out]; exact A2
          have G2 := hid (G1.out.trans g2.out); clear g2
          obtain ⟨s3, e3⟩ : ∃ z, z = oNumber 0 2 a.stable s2 := ⟨_, rfl⟩
          have K3 : Hid (s3.size ≤ s2.size + 4) := by have h1 : s3.size ≤ s2.size + 4 := (by rw [e3]; exact size_oNumber _ _ _ _); exact h1
          have E3 := hid e3; clear e3
          have D := hid (upto_out c p F2 gb _ a.stable 0 2 _ A2.out (by have := K1.out; have := K2.out; have := HN.out; have := HFW.out; simp only; omega))
          have hc0 : World.cell? _ ⟨gb, 25, none⟩ = some (.int .i64 a.stable) := (A2.out.bl.cell 25).trans (HBC.out 25)
          go_wp2_with fail
          refine D.out.mono ?_
          rintro e w3 ⟨rfl, F3, A3, g3⟩
          clear D hc0
          replace A3 : Hid (OAt w3 c p F3 gb (s3, B)) := by rw [E3.out]; exact A3
          have G3 := hid (G2.out.trans g3.out); clear g3
          obtain ⟨s4, e4⟩ : ∃ z, z = oText 8192 a.data s3 := ⟨_, rfl⟩
          have K4 : Hid (s4.size ≤ s3.size + (a.data.length + 8)) := by have h1 : s4.size ≤ s3.size + (a.data.length + 8) := (by rw [e4]; exact size_oText _ _ _); exact h1
          have E4 := hid e4; clear e4
          have hsl : SlB w3 xo xc a.data := (HDA.out.keep HM0.out fun _ _ h => h).keep G3.out.mods fun j hj hf => by
            have h1 := HBL.out j hj
            rcases hf with hf | hf
            · have := HNF.out j hf; omega
            · have := HGB.out; omega
          have hcd : w3.cell? ⟨gb, 28, none⟩ = some (.slice xo a.data.length xc) := (A3.out.bl.cell 28).trans (HBC.out 28)
          have hconv := run_conv hsl
          have D := hid (text_out c p F3 gb _ a.data 8192 w3 A3.out (by have := K1.out; have := K2.out; have := K3.out; have := HN.out; have := HFW.out; simp only; omega))
          clear hsl
          go_wp2_with fail
          refine D.out.mono ?_
          rintro e w4 ⟨rfl, F4, A4, g4⟩
          clear D hcd hconv
          replace A4 : Hid (OAt w4 c p F4 gb (s4, B)) := by rw [E4.out]; exact A4
          have G4 := hid (G3.out.trans g4.out); clear g4
          have hend : oBody 7 a s0 = s4 := by rw [E4.out, E3.out, E2.out, E1.out]; simp [oBody]
          have HEND := hid hend; clear hend
          obtain ⟨bad, out, ao, cap, hst, how, hFe⟩ := A4.out.co
          have HST : Hid (oBody 7 a s0 = .wr bad out) := by rw [HEND.out]; exact hst
          have hb1 := how.c1; have hb0 := how.c0; have hbw := how.wr.cell
          have HOWN := hid how.wr.own; have HOL : Hid (out.length ≤ 1000000) := by have h1 : s4.size = out.length := (by rw [show s4 = _ from hst]; rfl); have := K1.out; have := K2.out; have := K3.out; have := K4.out; have := HN.out; have := HFW.out; show _ ≤ _; rw [← h1]; omega
          have hnew : ∀ j, blk ao j → w.heap.size ≤ j := fun j hj => by
            rcases G4.out.fresh j (by rw [hFe]; exact .inr (.inr hj)) with h1 | h1
            · exact HNF.out j h1
            · exact Nat.le_trans HSZ.out h1
          have hmods := HM0.out.step G4.out.mods fun j hj hf => by
            rcases hf with hf | hf
            · have := HNF.out j hf; omega
            · have := HGB.out; omega
          have HNEW := hid hnew; have HMODS := hid hmods
          clear hst how hFe hnew hmods HEND
          cases bad
          · go_wp2
            go_ret2
            rw [HST.out]
            exact ⟨ao, cap, rfl, HOWN.out, HMODS.out, HNEW.out, HOL.out⟩
          · clear hbw hb0
            go_wp2
            go_ret2
            rw [HST.out]
            exact ⟨none, 0, rfl, OwnB.nil _, HMODS.out, fun k hk => hk.elim, Nat.zero_le _⟩
        by_cases h101 : q = 101
        · subst h101
          clear h2 h4 h6 h21 h7
          clear HDA HBL
          obtain ⟨s1, e1⟩ : ∃ z, z = oText 1024 a.path s0 := ⟨_, rfl⟩
          have K1 : Hid (s1.size ≤ s0.size + (a.path.length + 8)) := by have h1 : s1.size ≤ s0.size + (a.path.length + 8) := (by rw [e1]; exact size_oText _ _ _); exact h1
          have E1 := hid e1; clear e1
          have D := hid (text_out c p F0 gb _ a.path 1024 _ A0.out (by  have := HN.out; have := HFW.out; simp only; omega))
          have hc0 : World.cell? _ ⟨gb, 4, none⟩ = some (.string (str a.path)) := (A0.out.bl.cell 4).trans (HBC.out 4)
          go_wp2_with fail
          refine D.out.mono ?_
          rintro e w1 ⟨rfl, F1, A1, g1⟩
          clear D hc0
          replace A1 : Hid (OAt w1 c p F1 gb (s1, B)) := by rw [E1.out]; exact A1
          have G1 := hid (G0.out.trans g1.out); clear g1
          have hend : oBody 101 a s0 = s1 := by rw [E1.out]; simp [oBody]
          have HEND := hid hend; clear hend
          obtain ⟨bad, out, ao, cap, hst, how, hFe⟩ := A1.out.co
          have HST : Hid (oBody 101 a s0 = .wr bad out) := by rw [HEND.out]; exact hst
          have hb1 := how.c1; have hb0 := how.c0; have hbw := how.wr.cell
          have HOWN := hid how.wr.own; have HOL : Hid (out.length ≤ 1000000) := by have h1 : s1.size = out.length := (by rw [show s1 = _ from hst]; rfl); have := K1.out; have := HN.out; have := HFW.out; show _ ≤ _; rw [← h1]; omega
          have hnew : ∀ j, blk ao j → w.heap.size ≤ j := fun j hj => by
            rcases G1.out.fresh j (by rw [hFe]; exact .inr (.inr hj)) with h1 | h1
            · exact HNF.out j h1
            · exact Nat.le_trans HSZ.out h1
          have hmods := HM0.out.step G1.out.mods fun j hj hf => by
            rcases hf with hf | hf
            · have := HNF.out j hf; omega
            · have := HGB.out; omega
          have HNEW := hid hnew; have HMODS := hid hmods
          clear hst how hFe hnew hmods HEND
          cases bad
          · go_wp2
            go_ret2
            rw [HST.out]
            exact ⟨ao, cap, rfl, HOWN.out, HMODS.out, HNEW.out, HOL.out⟩
          · clear hbw hb0
            go_wp2
            go_ret2
            rw [HST.out]
            exact ⟨none, 0, rfl, OwnB.nil _, HMODS.out, fun k hk => hk.elim, Nat.zero_le _⟩
        by_cases h103 : q = 103
        · subst h103
          clear h2 h4 h6 h21 h7 h101
          clear HDA HBL
          obtain ⟨s1, e1⟩ : ∃ z, z = oText 1024 a.path s0 := ⟨_, rfl⟩
          have K1 : Hid (s1.size ≤ s0.size + (a.path.length + 8)) := by have h1 : s1.size ≤ s0.size + (a.path.length + 8) := (by rw [e1]; exact size_oText _ _ _); exact h1
          have E1 := hid e1; clear e1
          have D := hid (text_out c p F0 gb _ a.path 1024 _ A0.out (by  have := HN.out; have := HFW.out; simp only; omega))
          have hc0 : World.cell? _ ⟨gb, 4, none⟩ = some (.string (str a.path)) := (A0.out.bl.cell 4).trans (HBC.out 4)
          go_wp2_with fail
          refine D.out.mono ?_
          rintro e w1 ⟨rfl, F1, A1, g1⟩
          clear D hc0
          replace A1 : Hid (OAt w1 c p F1 gb (s1, B)) := by rw [E1.out]; exact A1
          have G1 := hid (G0.out.trans g1.out); clear g1
          have hend : oBody 103 a s0 = s1 := by rw [E1.out]; simp [oBody]
          have HEND := hid hend; clear hend
          obtain ⟨bad, out, ao, cap, hst, how, hFe⟩ := A1.out.co
          have HST : Hid (oBody 103 a s0 = .wr bad out) := by rw [HEND.out]; exact hst
          have hb1 := how.c1; have hb0 := how.c0; have hbw := how.wr.cell
          have HOWN := hid how.wr.own; have HOL : Hid (out.length ≤ 1000000) := by have h1 : s1.size = out.length := (by rw [show s1 = _ from hst]; rfl); have := K1.out; have := HN.out; have := HFW.out; show _ ≤ _; rw [← h1]; omega
          have hnew : ∀ j, blk ao j → w.heap.size ≤ j := fun j hj => by
            rcases G1.out.fresh j (by rw [hFe]; exact .inr (.inr hj)) with h1 | h1
            · exact HNF.out j h1
            · exact Nat.le_trans HSZ.out h1
          have hmods := HM0.out.step G1.out.mods fun j hj hf => by
            rcases hf with hf | hf
            · have := HNF.out j hf; omega
            · have := HGB.out; omega
          have HNEW := hid hnew; have HMODS := hid hmods
          clear hst how hFe hnew hmods HEND
          cases bad
          · go_wp2
            go_ret2
            rw [HST.out]
            exact ⟨ao, cap, rfl, HOWN.out, HMODS.out, HNEW.out, HOL.out⟩
          · clear hbw hb0
            go_wp2
            go_ret2
            rw [HST.out]
            exact ⟨none, 0, rfl, OwnB.nil _, HMODS.out, fun k hk => hk.elim, Nat.zero_le _⟩
        clear HDA HBL
        have n2 : (q == 2) = false := by simpa using h2
        have n4 : (q == 4) = false := by simpa using h4
        have n6 : (q == 6) = false := by simpa using h6
        have n21 : (q == 21) = false := by simpa using h21
        have n7 : (q == 7) = false := by simpa using h7
        have n101 : (q == 101) = false := by simpa using h101
        have n103 : (q == 103) = false := by simpa using h103
        have HQ := hid (And.intro h2 (And.intro h4 (And.intro h6 (And.intro h21 (And.intro h7 (And.intro h101 h103))))))
        clear h2 h4 h6 h21 h7 h101 h103
        obtain ⟨s1, e1⟩ : ∃ z, z = oMore q a s0 := ⟨_, rfl⟩
        have K1 : Hid (s1.size ≤ s0.size + (a.len + 300)) := by have h1 : s1.size ≤ s0.size + (a.len + 300) := (by rw [e1]; exact size_oMore _ _ _); exact h1
        have E1 := hid e1; clear e1
        have hr : World.rangeAt _ gb 0 (a.cells (.slice xo a.data.length xc)) := fun j u hj => by rw [Nat.zero_add, A0.out.bl.cell j]; exact (HBC.out j).trans hj
        have HLOAD := hid (run_loadAt_mid (P := Try.prog) _ gb 0 30 _ _ hr Try.underlying30 rfl (by kernel_rfl))
        have D := hid (more_out c p F0 gb _ q a (.slice xo a.data.length xc) _ A0.out (by have := HN.out; have := HFW.out; simp only; omega) HG.out)
        clear hr
        go_upto_region 9 with fail
        refine wp_region_list (wpList_val (v := .pointer (some ⟨c, 0, none⟩)) rfl rfl ?_)
        simp only [Act.put, List.setIfInBounds_toArray, List.set_cons_succ, List.set_cons_zero]
        refine wpList_val (v := .int .i64 q) rfl rfl ?_
        simp only [Act.put, List.setIfInBounds_toArray, List.set_cons_succ, List.set_cons_zero]
        refine wpList_val (v := .agg (a.cells (.slice xo a.data.length xc)).toArray) rfl ?_ ?_
        · show (do pure (Next.value (← Instr.loadAt 30 (.pointer (some ⟨gb, 0, none⟩))))).run Try.prog _ = _
          rw [Sem.run_bind, HLOAD.out]; rfl
        simp only [Act.put, List.setIfInBounds_toArray, List.set_cons_succ, List.set_cons_zero]
        obtain ⟨A2, hA2⟩ : ∃ z, z = (a.cells (.slice xo a.data.length xc)).toArray := ⟨_, rfl⟩
        rw [← hA2] at D ⊢
        clear hA2 HLOAD
        refine wpl_call (f := 45) (args := #[.pointer (some ⟨c, 0, none⟩), .int .i64 q, .agg A2]) (R := fun v w' => v = .tuple #[] ∧ ∃ F', Hid (OAt w' c p F' gb (oMore q a s0, B)) ∧ Hid (GG _ F0 gb w' F')) rfl (by go_simp) (D.out.mono fun e w' ⟨he, F', q1, q2⟩ => ⟨_, he, rfl, F', q1, q2⟩) ?_
        rintro v w1 ⟨rfl, F1, A1, g1⟩
        simp only [Act.put, List.setIfInBounds_toArray, List.set_cons_succ, List.set_cons_zero]
        clear D
        replace A1 : Hid (OAt w1 c p F1 gb (s1, B)) := by rw [E1.out]; exact A1
        have G1 := hid (G0.out.trans g1.out); clear g1
        have hend : oBody q a s0 = s1 := by rw [E1.out]; simp [oBody, HQ.out]
        have HEND := hid hend; clear hend
        obtain ⟨bad, out, ao, cap, hst, how, hFe⟩ := A1.out.co
        have HST : Hid (oBody q a s0 = .wr bad out) := by rw [HEND.out]; exact hst
        have hb1 := how.c1; have hb0 := how.c0; have hbw := how.wr.cell
        have HOWN := hid how.wr.own; have HOL : Hid (out.length ≤ 1000000) := by have h1 : s1.size = out.length := (by rw [show s1 = _ from hst]; rfl); have := K1.out; have := HN.out; have := HFW.out; show _ ≤ _; rw [← h1]; omega
        have hnew : ∀ j, blk ao j → w.heap.size ≤ j := fun j hj => by
          rcases G1.out.fresh j (by rw [hFe]; exact .inr (.inr hj)) with h1 | h1
          · exact HNF.out j h1
          · exact Nat.le_trans HSZ.out h1
        have hmods := HM0.out.step G1.out.mods fun j hj hf => by
          rcases hf with hf | hf
          · have := HNF.out j hf; omega
          · have := HGB.out; omega
        have HNEW := hid hnew; have HMODS := hid hmods
        clear hst how hFe hnew hmods HEND
        cases bad
        · go_wp2
          go_ret2
          rw [HST.out]
          exact ⟨ao, cap, rfl, HOWN.out, HMODS.out, HNEW.out, HOL.out⟩
        · clear hbw hb0
          go_wp2
          go_ret2
          rw [HST.out]
          exact ⟨none, 0, rfl, OwnB.nil _, HMODS.out, fun k hk => hk.elim, Nat.zero_le _⟩

end Go.Proofs.Ytanknjpcgceccaa
