/- law19's NfsxBack answers true, where Few's bounds and the lines' hold. (Printed by wip/tools/gen_lawnback.py.) -/
import Derived.Test.YtanknjpcgceccaaTwoB
import Derived.Test.YtanknjpcgceccaaSameR
import Derived.Test.YtanknjpcgceccaaKnown19
namespace Go.Proofs.Ytanknjpcgceccaa
open Go.RowKit

abbrev Ans2 (w : World) (b : Bool) (e : Ending) (w' : World) : Prop := e = .returned (.bool b) ∧ Mods (fun _ => False) w w'
theorem load_args {w : World} {g : Nat} {A : Array Value} (h : w.rangeAt g 0 A.toList) (hi : A.size = 36) :
    (Instr.loadAt 30 (.pointer (some ⟨g, 0, none⟩))).run Try.prog w = .ok (.agg A) w := by
  have := run_loadAt_mid (P := Try.prog) w g 0 30 A.toList _ h Try.underlying30 rfl (by rw [Array.length_toList, hi]; kernel_rfl)
  simpa using this
theorem load_res {w : World} {g : Nat} {A : Array Value} (h : w.rangeAt g 0 A.toList) (hi : A.size = 88) :
    (Instr.loadAt 42 (.pointer (some ⟨g, 0, none⟩))).run Try.prog w = .ok (.agg A) w := by
  have := run_loadAt_mid (P := Try.prog) w g 0 42 A.toList _ h Try.underlying42 rfl (by rw [Array.length_toList, hi]; kernel_rfl)
  simpa using this
theorem new_fill (w : World) (z : List Value) (A : Array Value) (t : TypeId) (hl : z.length = A.size) : ((w.alloc (.cells z.toArray t)).setCells w.heap.size 0 A.toList).rangeAt w.heap.size 0 A.toList ∧
    Mods (fun _ => False) w ((w.alloc (.cells z.toArray t)).setCells w.heap.size 0 A.toList) ∧ (w.alloc (.cells z.toArray t)).there w.heap.size 0 A.size := by
  have hb := Blk.new w z.toArray t
  have ht : (w.alloc (.cells z.toArray t)).there w.heap.size 0 A.size := fun j hj => ⟨by
    rw [Nat.zero_add, hb.cell j]
    simp only [List.getElem?_toArray]
    rw [List.getElem?_eq_getElem (by omega)]; rfl, hb.free _⟩
  exact ⟨World.rangeAt_setCells_same _ _ _ _ (by rw [Array.length_toList]; exact ht), (Mods.alloc _ _ _).step (Mods.setCells (F := fun k => k = w.heap.size) _ rfl) fun k hk e => absurd hk (by omega), ht⟩
theorem typed_resE {a : ResV} (hg : a.good) (f1 : a.handle.length ≤ 2000000) (f2 : a.path.length ≤ 2000000) : a.ok := fun dv ev =>
  typed_res (a := { a with entries := [], data := [] }) ⟨hg.1, hg.2.1, hg.2.2.1, hg.2.2.2.1, hg.2.2.2.2.1, hg.2.2.2.2.2.1, hg.2.2.2.2.2.2.1, hg.2.2.2.2.2.2.2.1, hg.2.2.2.2.2.2.2.2.1, hg.2.2.2.2.2.2.2.2.2.1, hg.2.2.2.2.2.2.2.2.2.2.1, hg.2.2.2.2.2.2.2.2.2.2.2.1, (fun e he => by cases he), hg.2.2.2.2.2.2.2.2.2.2.2.2.2.1, hg.2.2.2.2.2.2.2.2.2.2.2.2.2.2.1, hg.2.2.2.2.2.2.2.2.2.2.2.2.2.2.2.1, hg.2.2.2.2.2.2.2.2.2.2.2.2.2.2.2.2⟩ ⟨f1, f2, Nat.zero_le _, rfl⟩ dv ev
theorem roomFrom_sum (es : List EntryV) : roomFrom 0 es = (es.map fun e => e.name.length + e.handle.length).sum + 200 * es.length := by
  unfold roomFrom
  rw [List.drop_zero]
  induction es with
  | nil => rfl
  | cons e l ih => simp only [List.map_cons, List.sum_cons, List.length_cons, EntryV.room, ih]; omega

theorem rresE_zero (p : Int) (b : List UInt8) (h : (rresE p b).2 ≠ 0) : (rresE p b).1 = zeroRes := by
  unfold rresE at h ⊢
  split
  · rename_i ht
    rw [if_pos ht] at h
    simp only at h ⊢
    split
    · rename_i hs
      rw [hs] at h
      simp only at h
      split
      · rename_i hen
        rw [if_pos hen] at h
        exact absurd rfl h
      · rfl
    · rfl
  · rfl

/-- What Few tells. -/
def few2 (a : ArgsV) (r : ResV) : Bool := decide ((a.file.length : Int) + a.to.length + a.name.length + a.toName.length + a.path.length + a.data.length < 30000) && (decide ((r.handle.length : Int) + r.path.length + r.data.length < 30000) && decide ((r.entries.length : Int) < 2000))
set_option maxRecDepth 100000 in
set_option maxHeartbeats 4000000 in
theorem Few2_any (a : ArgsV) (xo : Option Addr) (xc : Nat) (r : ResV) (ro : Option Addr) (rc : Nat) (eo : Option Addr) (ec : Nat) (w : World) (h0 : a.file.length ≤ 140737488355328) (h1 : a.to.length ≤ 140737488355328) (h2 : a.name.length ≤ 140737488355328) (h3 : a.toName.length ≤ 140737488355328) (h4 : a.path.length ≤ 140737488355328) (h5 : a.data.length ≤ 140737488355328)
    (i0 : r.handle.length ≤ 140737488355328) (i1 : r.path.length ≤ 140737488355328) (i2 : r.data.length ≤ 140737488355328) (i3 : r.entries.length ≤ 140737488355328) :
    Calls Try.prog 9 #[.agg (a.cells (.slice xo a.data.length xc)).toArray, .agg (r.cells (.slice ro r.data.length rc) (.slice eo r.entries.length ec)).toArray] w (Ans2 w (few2 a r)) := by
  obtain ⟨A, hA⟩ : ∃ A, A = (a.cells (.slice xo a.data.length xc)).toArray := ⟨_, rfl⟩
  obtain ⟨R, hR⟩ : ∃ A, A = (r.cells (.slice ro r.data.length rc) (.slice eo r.entries.length ec)).toArray := ⟨_, rfl⟩
  rw [← hA, ← hR]
  unfold few2
  obtain ⟨n0, e0⟩ : ∃ n, n = a.file.length := ⟨_, rfl⟩
  obtain ⟨n1, e1⟩ : ∃ n, n = a.to.length := ⟨_, rfl⟩
  obtain ⟨n2, e2⟩ : ∃ n, n = a.name.length := ⟨_, rfl⟩
  obtain ⟨n3, e3⟩ : ∃ n, n = a.toName.length := ⟨_, rfl⟩
  obtain ⟨n4, e4⟩ : ∃ n, n = a.path.length := ⟨_, rfl⟩
  obtain ⟨n5, e5⟩ : ∃ n, n = a.data.length := ⟨_, rfl⟩
  obtain ⟨m0, f0⟩ : ∃ n, n = r.handle.length := ⟨_, rfl⟩
  obtain ⟨m1, f1⟩ : ∃ n, n = r.path.length := ⟨_, rfl⟩
  obtain ⟨m2, f2⟩ : ∃ n, n = r.data.length := ⟨_, rfl⟩
  obtain ⟨m3, f3⟩ : ∃ n, n = r.entries.length := ⟨_, rfl⟩
  have k0 : (str a.file).size = n0 := by rw [e0]; rfl
  have k1 : (str a.to).size = n1 := by rw [e1]; rfl
  have k2 : (str a.name).size = n2 := by rw [e2]; rfl
  have k3 : (str a.toName).size = n3 := by rw [e3]; rfl
  have k4 : (str a.path).size = n4 := by rw [e4]; rfl
  have j0 : (str r.handle).size = m0 := by rw [f0]; rfl
  have j1 : (str r.path).size = m1 := by rw [f1]; rfl
  rw [← e0] at h0; rw [← e1] at h1; rw [← e2] at h2; rw [← e3] at h3; rw [← e4] at h4; rw [← e5] at h5
  rw [← f0] at i0; rw [← f1] at i1; rw [← f2] at i2; rw [← f3] at i3
  rw [← e0, ← e1, ← e2, ← e3, ← e4, ← e5, ← f0, ← f1, ← f2, ← f3]
  have HA := hid hA; have HR := hid hR; have HN5 := hid e5; have HF2 := hid f2; have HF3 := hid f3
  clear hA hR e0 e1 e2 e3 e4 e5 f0 f1 f2 f3
  go_enter Try.func9, Try.ntmps9
  go_upto_region 1 with fail
  have hb1 : Blk (w.alloc (.cells A 30)) w.heap.size (fun j => A[j]?) := Blk.new w _ _
  have hm1 : Mods (fun _ => False) w (w.alloc (.cells A 30)) := Mods.alloc _ _ _
  have hb2 : Blk ((w.alloc (.cells A 30)).alloc (.cells R 42)) (w.heap.size + 1) (fun j => R[j]?) := by
    have := Blk.new (w.alloc (.cells A 30)) R 42
    simpa using this
  have hm2 : Mods (fun _ => False) (w.alloc (.cells A 30)) ((w.alloc (.cells A 30)).alloc (.cells R 42)) := Mods.alloc _ _ _
  have hb1' := hb1.keep hm2 fun h => h
  have HM := hid (hm1.trans hm2)
  generalize (w.alloc (.cells A 30)).alloc (.cells R 42) = w0 at hb1' hb2 HM ⊢
  clear hb1 hm1 hm2
  have c0 : w0.cell? ⟨w.heap.size, 0, none⟩ = some (.string (str a.file)) := by rw [hb1'.cell, HA.out]; rfl
  have c1 : w0.cell? ⟨w.heap.size, 1, none⟩ = some (.string (str a.to)) := by rw [hb1'.cell, HA.out]; rfl
  have c2 : w0.cell? ⟨w.heap.size, 2, none⟩ = some (.string (str a.name)) := by rw [hb1'.cell, HA.out]; rfl
  have c3 : w0.cell? ⟨w.heap.size, 3, none⟩ = some (.string (str a.toName)) := by rw [hb1'.cell, HA.out]; rfl
  have c4 : w0.cell? ⟨w.heap.size, 4, none⟩ = some (.string (str a.path)) := by rw [hb1'.cell, HA.out]; rfl
  have c5 : w0.cell? ⟨w.heap.size, 28, none⟩ = some (.slice xo n5 xc) := by rw [hb1'.cell, HA.out, HN5.out]; rfl
  have d0 : w0.cell? ⟨w.heap.size + 1, 74, none⟩ = some (.string (str r.handle)) := by rw [hb2.cell, HR.out]; rfl
  have d1 : w0.cell? ⟨w.heap.size + 1, 76, none⟩ = some (.string (str r.path)) := by rw [hb2.cell, HR.out]; rfl
  have d2 : w0.cell? ⟨w.heap.size + 1, 79, none⟩ = some (.slice ro m2 rc) := by rw [hb2.cell, HR.out, HF2.out]; rfl
  have d3 : w0.cell? ⟨w.heap.size + 1, 83, none⟩ = some (.slice eo m3 ec) := by rw [hb2.cell, HR.out, HF3.out]; rfl
  clear hb1' hb2
  generalize str a.file = s0 at *
  generalize str a.to = s1 at *
  generalize str a.name = s2 at *
  generalize str a.toName = s3 at *
  generalize str a.path = s4 at *
  generalize str r.handle = t0 at *
  generalize str r.path = t1 at *
  clear HA HR HN5 HF2 HF3
  by_cases hsum : (n0 : Int) + n1 + n2 + n3 + n4 + n5 < 30000
  · by_cases hsum2 : (m0 : Int) + m1 + m2 < 30000
    · by_cases hsum3 : (m3 : Int) < 2000
      · go_wp2
        go_ret
        exact ⟨by simp [hsum, hsum2, hsum3], HM.out⟩
      · go_wp2
        go_ret
        exact ⟨by simp [hsum, hsum2, hsum3], HM.out⟩
    · go_wp2
      go_ret
      exact ⟨by simp [hsum]; omega, HM.out⟩
  · go_wp2
    go_ret
    exact ⟨by simp; omega, HM.out⟩

set_option maxRecDepth 100000 in
set_option maxHeartbeats 16000000 in
theorem nfsxBack_any (p : Int) (a : ArgsV) (xo : Option Addr) (xc : Nat) (r : ResV) (ro : Option Addr) (rc : Nat) (eo : Option Addr) (ec : Nat) (so : Option Addr) (sc : Nat) (bs : List UInt8) (w : World)
    (hs : SlB w so sc bs) (hx : SlB w xo xc a.data) (hxb : ∀ k, rb xo a.data.length k → k < w.heap.size) (hr : SlB w ro rc r.data) (hrb : ∀ k, rb ro r.data.length k → k < w.heap.size) (hre : Sl w 20 eo r.entries.length ec (flatE r.entries)) (hg : a.good) (hgr : r.good)
    (h0 : a.file.length ≤ 1048576) (h1 : a.to.length ≤ 1048576) (h2 : a.name.length ≤ 1048576) (h3 : a.toName.length ≤ 1048576) (h4 : a.path.length ≤ 1048576) (h5 : a.data.length ≤ 1048576)
    (i0 : r.handle.length ≤ 1048576) (i1 : r.path.length ≤ 1048576) (i2 : r.data.length ≤ 1048576) (i3 : r.entries.length ≤ 1048576) (i4 : (r.entries.map fun e => e.name.length + e.handle.length).sum ≤ 1048576) (i5 : ∀ e ∈ r.entries, e.name.length ≤ 1048576 ∧ e.handle.length ≤ 1048576) :
    Calls Try.prog 6 #[.int .i64 p, .agg (a.cells (.slice xo a.data.length xc)).toArray, .agg (r.cells (.slice ro r.data.length rc) (.slice eo r.entries.length ec)).toArray, .slice so bs.length sc] w (Ans2 w true) := by
  have HFEW := hid (fun w' => Few2_any a xo xc r ro rc eo ec w' (by omega) (by omega) (by omega) (by omega) (by omega) (by omega) (by omega) (by omega) (by omega) (by omega))
  have HWA := hid (fun (w' : World) (hm : Mods (fun _ => False) w w') => WriteArgs_typ p a xo xc w' (hx.keep hm fun _ _ h => h) (fun k hk => Nat.lt_of_lt_of_le (hxb k hk) hm.size) (typed_cells hg ⟨by omega, by omega, by omega, by omega, by omega, by omega⟩ _) (by omega))
  have HRO : Hid (∀ e ∈ r.entries, EntryV.ok e) := fun e he => EntryV.good.ok (hgr.2.2.2.2.2.2.2.2.2.2.2.2.1 e he) (by have := i5 e he; omega) (by have := i5 e he; omega)
  have HROK : Hid r.ok := typed_resE hgr (by omega) (by omega)
  have HAOK : Hid a.ok := fun dv => typed_cells hg ⟨by omega, by omega, by omega, by omega, by omega, by omega⟩ dv
  have HWR := hid (fun (w' : World) (hm : Mods (fun _ => False) w w') (hn : r.entries.length < 2000) => WriteRes_anyE p r ro rc eo ec w' (hr.keep hm fun _ _ h => h) (fun k hk => Nat.lt_of_lt_of_le (hrb k hk) hm.size) (hre.keep hm fun _ _ h => h) HROK.out (by omega) HRO.out (by omega) (by rw [roomFrom_sum]; omega))
  have HS := hid hs; have HRS := hid hr
  clear h0 h1 h2 h3 h4 h5 i0 i1 i2 i3 i4 i5 hs hx hxb hr hrb hre hg hgr
  obtain ⟨few, hfew⟩ : ∃ f, f = few2 a r := ⟨_, rfl⟩
  rw [← hfew] at HFEW
  have HF := hid hfew
  clear hfew
  obtain ⟨A, hA⟩ : ∃ A, A = (a.cells (.slice xo a.data.length xc)).toArray := ⟨_, rfl⟩
  obtain ⟨R, hR⟩ : ∃ A, A = (r.cells (.slice ro r.data.length rc) (.slice eo r.entries.length ec)).toArray := ⟨_, rfl⟩
  rw [← hA] at HFEW HWA
  rw [← hR] at HFEW HWR
  rw [← hA, ← hR]
  have ASZ : Hid (A.size = 36) := by show _ = _; rw [hA]; rfl
  have RSZ : Hid (R.size = 88) := by show _ = _; rw [hR]; rfl
  clear hA hR
  obtain ⟨wo, hwo⟩ : ∃ z, z = wargs p a (.slice xo a.data.length xc) := ⟨_, rfl⟩
  rw [← hwo] at HWA
  have HWO := hid hwo
  clear hwo
  obtain ⟨ob, on⟩ := wo
  go_enter Try.func6, Try.ntmps6
  go_upto_region 1 with fail
  have hA1 : (w.alloc (.cells A 30)).rangeAt w.heap.size 0 A.toList := by have h := rangeAt_new w A.toList 30; simpa using h
  have hm1 : Mods (fun _ => False) w (w.alloc (.cells A 30)) := Mods.alloc _ _ _
  have hR1 : ((w.alloc (.cells A 30)).alloc (.cells R 42)).rangeAt (w.heap.size + 1) 0 R.toList := by have h := rangeAt_new (w.alloc (.cells A 30)) R.toList 42; simpa using h
  have hm2 : Mods (fun _ => False) (w.alloc (.cells A 30)) ((w.alloc (.cells A 30)).alloc (.cells R 42)) := Mods.alloc _ _ _
  have hA2 := rangeAt_keep hA1 hm2 fun h => h
  have hm12 := hm1.trans hm2
  generalize (w.alloc (.cells A 30)).alloc (.cells R 42) = w1 at hA2 hR1 hm12 ⊢
  obtain ⟨ga, hga⟩ : ∃ z, z = w.heap.size := ⟨_, rfl⟩
  rw [← hga] at hA2 hR1 ⊢
  obtain ⟨gr, hgr⟩ : ∃ z, z = ga + 1 := ⟨_, rfl⟩
  rw [← hgr] at hR1 ⊢
  have HA1 := hid hA2; have HR1 := hid hR1; have HM1 := hid hm12
  clear hA1 hm1 hR1 hm2 hA2 hm12 hga hgr
  go_wp2_with fail
  refine (known_any _).mono ?_
  rintro e w2 ⟨rfl, hm⟩
  have HM2 := hid (HM1.out.trans hm)
  have HA2 := hid (rangeAt_keep HA1.out hm fun h => h)
  have HR2 := hid (rangeAt_keep HR1.out hm fun h => h)
  clear hm HM1 HA1 HR1
  go_upto_region 3 with fail
  refine wp_region_list ?_
  refine wpList_val (v := .agg A) rfl ?_ ?_
  · show (do pure (Next.value (← Instr.loadAt 30 (.pointer (some ⟨ga, 0, none⟩))))).run Try.prog _ = _
    rw [Sem.run_bind, load_args HA2.out ASZ.out]; rfl
  simp only [Act.put, List.setIfInBounds_toArray, List.set_cons_succ, List.set_cons_zero]
  refine wpList_val (v := .agg R) rfl ?_ ?_
  · show (do pure (Next.value (← Instr.loadAt 42 (.pointer (some ⟨gr, 0, none⟩))))).run Try.prog _ = _
    rw [Sem.run_bind, load_res HR2.out RSZ.out]; rfl
  simp only [Act.put, List.setIfInBounds_toArray, List.set_cons_succ, List.set_cons_zero]
  refine wpl_call (f := 9) (args := #[.agg A, .agg R]) (R := fun v w' => v = .bool few ∧ Mods (fun _ => False) w2 w') rfl (by go_simp) ((HFEW.out _).mono fun e w' h => ⟨_, h.1, rfl, h.2⟩) ?_
  rintro v w3 ⟨rfl, hm⟩
  simp only [Act.put, List.setIfInBounds_toArray, List.set_cons_succ, List.set_cons_zero]
  have HM3 := hid (HM2.out.trans hm)
  have HA3 := hid (rangeAt_keep HA2.out hm fun h => h)
  have HR3 := hid (rangeAt_keep HR2.out hm fun h => h)
  clear hm HM2 HA2 HR2 HFEW
  cases few
  · go_wp2
    go_ret
    exact ⟨rfl, HM3.out⟩
  by_cases hbig : 32768 < (bs.length : Int)
  · go_wp2
    go_ret
    exact ⟨rfl, HM3.out⟩
  have HBIG := hid hbig
  have HN2 : Hid (r.entries.length < 2000) := by
    have h := HF.out
    unfold few2 at h
    have h2 := (Bool.and_eq_true _ _ ▸ h.symm : _ ∧ _)
    have h3 := of_decide_eq_true ((Bool.and_eq_true _ _ ▸ h2.2 : _ ∧ _)).2
    show _ < _
    omega
  have HC5 := hid (HWA.out w3 HM3.out)
  clear hbig HF HWA
  go_upto_region 5 with fail
  refine wp_region_list (wpList_val (v := .int .i64 p) rfl rfl ?_)
  simp only [Act.put, List.setIfInBounds_toArray, List.set_cons_succ, List.set_cons_zero]
  refine wpList_val (v := .agg A) rfl ?_ ?_
  · show (do pure (Next.value (← Instr.loadAt 30 (.pointer (some ⟨ga, 0, none⟩))))).run Try.prog _ = _
    rw [Sem.run_bind, load_args HA3.out ASZ.out]; rfl
  simp only [Act.put, List.setIfInBounds_toArray, List.set_cons_succ, List.set_cons_zero]
  refine wpl_call (f := 12) (args := #[.int .i64 p, .agg A]) (R := fun v w' => ∃ yo yc, v = .tuple #[.slice yo ob.length yc, .int .i64 on] ∧ OwnB w' yo yc ob ∧ Mods (fun _ => False) w3 w' ∧ ob.length ≤ 20000000) rfl (by go_simp) (HC5.out.mono fun e w' h => by obtain ⟨yo, yc, he, h2, h3, _, h4⟩ := h; exact ⟨_, he, yo, yc, rfl, h2, h3, h4⟩) ?_
  rintro v w4 ⟨obo, obc, rfl, hown, hm, hol⟩
  simp only [Act.put, List.setIfInBounds_toArray, List.set_cons_succ, List.set_cons_zero]
  have HM4 := hid (HM3.out.trans hm)
  have HR4 := hid (rangeAt_keep HR3.out hm fun h => h)
  have HOB := hid hown.sl; have HOL := hid hol
  clear hm hown hol HM3 HA3 HR3 HC5
  go_upto_if 43 with fail
  go_cut [] from 11 (fun wx => Hid (Mods (fun _ => False) w4 wx))
  case first =>
    by_cases hon : on = 0
    rotate_left
    · have hon' : (on == 0) = false := by simpa using hon
      clear hon
      go_wp2_with fail
      go_meet
      case rel => exact Mods.refl _ _
    subst hon
    have ht : there p = true := by
      cases hth : there p
      · have h := HWO.out
        rw [wargs, if_neg (by rw [hth]; decide)] at h
        injection h with _ h2
        cases h2
      · rfl
    obtain ⟨k, hpk, hk⟩ := there_nat ht
    have htk : there (k : Int) = true := by rw [← hpk]; exact ht
    obtain ⟨q4, qr⟩ := args_wr k hk htk a _ ob HAOK.out (by rw [← hpk]; exact HWO.out.symm)
    have hbk := args_back' k hk htk ob qr
    rw [← hpk] at qr
    obtain ⟨rx, hrx⟩ : ∃ z, z = (rargs p ob).1 := ⟨_, rfl⟩
    have hro := rargs_ok p ob
    have hc := ReadArgs_any p obo obc ob w4 HOB.out (by have := HOL.out; omega)
    simp only [← hpk] at hbk
    rw [qr, ← hrx] at hc
    rw [← hrx] at hbk hro
    have HC := hid hc; have HBK := hid hbk; have HRO1 := hid hro; have HQ4 := hid q4
    clear hc hbk hro q4 qr hrx ht htk hk hpk HWO HWR HROK HRO
    go_upto_region 7 with fail
    refine wp_region_list (wpList_val (v := .int .i64 p) rfl rfl ?_)
    simp only [Act.put, List.setIfInBounds_toArray, List.set_cons_succ, List.set_cons_zero]
    refine wpList_val (v := .slice obo ob.length obc) rfl rfl ?_
    simp only [Act.put, List.setIfInBounds_toArray, List.set_cons_succ, List.set_cons_zero]
    refine wpl_call (f := 10) (args := #[.int .i64 p, .slice obo ob.length obc]) (R := fun v w' => RAP w4 rx 0 (.returned v) w') rfl (by go_simp) (HC.out.mono fun e w' h => by obtain ⟨yo, yc, he, h2⟩ := h; exact ⟨_, he, yo, yc, rfl, h2⟩) ?_
    rintro v w5 ⟨xso, xsc, hv, hsl, hfr, hm⟩
    obtain rfl : v = .tuple #[.agg (rx.cells (.slice xso rx.data.length xsc)).toArray, .int .i64 0] := by injection hv
    clear hv
    simp only [Act.put, List.setIfInBounds_toArray, List.set_cons_succ, List.set_cons_zero]
    obtain ⟨xA, hxA⟩ : ∃ A, A = (rx.cells (.slice xso rx.data.length xsc)).toArray := ⟨_, rfl⟩
    rw [← hxA]
    have hsz : xA.size = 36 := by rw [hxA]; rfl
    have hone : xA.all (·.oneCell') = true := by rw [hxA]; exact cells_one _ _ _ _
    refine wpList_val (v := .tuple #[.agg xA, .int .i64 0]) rfl rfl ?_
    simp only [Act.put, List.setIfInBounds_toArray, List.set_cons_succ, List.set_cons_zero]
    refine wpList_val (v := .agg xA) rfl (by go_simp) ?_
    simp only [Act.put, List.setIfInBounds_toArray, List.set_cons_succ, List.set_cons_zero]
    refine wpList_val (v := .int .i64 0) rfl (by go_simp) ?_
    simp only [Act.put, List.setIfInBounds_toArray, List.set_cons_succ, List.set_cons_zero]
    refine wpl_valW (v := .pointer (some ⟨w5.heap.size, 0, none⟩)) (w' := w5.alloc (.cells (zeroArgs.cells (.slice none 0 0)).toArray 30)) rfl (by rw [zeros_eq]; go_simp; try rfl) ?_
    simp only [Act.put, List.setIfInBounds_toArray, List.set_cons_succ, List.set_cons_zero]
    obtain ⟨hb, hms, ht1⟩ := new_fill w5 (zeroArgs.cells (.slice none 0 0)) xA 30 (by show 36 = xA.size; rw [hsz])
    refine wpList_storeC (b := w5.heap.size) (cells := xA) rfl rfl rfl rfl rfl ht1 (by rw [hsz]; kernel_rfl) hone ?_
    obtain ⟨xB, hxB⟩ : ∃ b, b = w5.heap.size := ⟨_, rfl⟩
    rw [← hxB] at hb hms ⊢
    generalize World.setCells _ _ _ _ = w6 at hb hms ⊢
    refine wpList_val (v := .int .i64 0) rfl rfl ?_
    simp only [Act.put, List.setIfInBounds_toArray, List.set_cons_succ, List.set_cons_zero]
    have xM := hid (hm.trans hms)
    have xR := hid hb
    have xSL := hid (hsl.keep hms fun _ _ h => h)
    have xFR : Hid (∀ k, rb xso rx.data.length k → k < w6.heap.size) := fun k hk => Nat.lt_of_lt_of_le (hfr k hk).2 hms.size
    have xSZ := hid hsz; have xAE := hid hxA
    clear hm hms hsl hfr hb ht1 hsz hone hxA hxB
    clear HC
    have hw := WriteArgs_typ p rx xso xsc w6 xSL.out xFR.out (HRO1.out.1 _) (by have := HRO1.out.2; omega)
    rw [HBK.out, ← xAE.out] at hw
    have HC := hid hw
    clear hw
    go_upto_region 8 with fail
    refine wp_region_list (wpList_val (v := .int .i64 p) rfl rfl ?_)
    simp only [Act.put, List.setIfInBounds_toArray, List.set_cons_succ, List.set_cons_zero]
    refine wpList_val (v := .agg xA) rfl ?_ ?_
    · show (do pure (Next.value (← Instr.loadAt 30 (.pointer (some ⟨xB, 0, none⟩))))).run Try.prog _ = _
      rw [Sem.run_bind, load_args xR.out xSZ.out]; rfl
    simp only [Act.put, List.setIfInBounds_toArray, List.set_cons_succ, List.set_cons_zero]
    refine wpl_call (f := 12) (args := #[.int .i64 p, .agg xA]) (R := fun v w' => ∃ yo yc, v = .tuple #[.slice yo ob.length yc, .int .i64 0] ∧ OwnB w' yo yc ob ∧ Mods (fun _ => False) w6 w' ∧ ob.length ≤ 20000000) rfl (by go_simp) (HC.out.mono fun e w' h => by obtain ⟨yo, yc, he, h2, h3, _, h4⟩ := h; exact ⟨_, he, yo, yc, rfl, h2, h3, h4⟩) ?_
    rintro v w7 ⟨qo, qc, rfl, hown, hm, hol⟩
    simp only [Act.put, List.setIfInBounds_toArray, List.set_cons_succ, List.set_cons_zero]
    have c1 := run_conv (HOB.out.keep (xM.out.trans hm) fun _ _ h => h)
    have c2 := run_conv hown.sl
    have h4 : ((ob.length : Int) % 4 != 0) = false := by
      have := HQ4.out
      rw [bne_eq_false_iff_eq]
      omega
    have MM := hid (xM.out.trans hm)
    have hlen : (ob.length : Int) ≤ 20000000 := by have := HOL.out; omega
    clear hm hown hol HC
    go_wp2_with fail
    go_meet
    case rel => exact MM.out

  case rest =>
    obtain ⟨w8, rfl⟩ : ∃ z, z = wc := ⟨_, rfl⟩
    have HM8 := hid (HM4.out.trans hcut.out)
    have HR8 := hid (rangeAt_keep HR4.out hcut.out fun h => h)
    have HC := hid (HWR.out w8 HM8.out HN2.out)
    clear hcut HM4 HR4 HWR HOB HOL HWO HAOK HN2
    go_upto_region 11 with fail
    refine wp_region_list (wpList_val (v := .int .i64 p) rfl rfl ?_)
    simp only [Act.put, List.setIfInBounds_toArray, List.set_cons_succ, List.set_cons_zero]
    refine wpList_val (v := .agg R) rfl ?_ ?_
    · show (do pure (Next.value (← Instr.loadAt 42 (.pointer (some ⟨gr, 0, none⟩))))).run Try.prog _ = _
      rw [Sem.run_bind, load_res HR8.out RSZ.out]; rfl
    simp only [Act.put, List.setIfInBounds_toArray, List.set_cons_succ, List.set_cons_zero]
    refine wpl_call (f := 18) (args := #[.int .i64 p, .agg R]) (R := fun v w' => ∃ ev yo yc, v = .tuple #[.slice yo (wresE p r (.slice ro r.data.length rc) ev).1.length yc, .int .i64 (wresE p r (.slice ro r.data.length rc) ev).2] ∧ OwnB w' yo yc (wresE p r (.slice ro r.data.length rc) ev).1 ∧ Mods (fun _ => False) w8 w' ∧ (wresE p r (.slice ro r.data.length rc) ev).1.length ≤ 20000000) rfl (by go_simp) (HC.out.mono fun e w' h => by obtain ⟨ev, yo, yc, he, h2, h3, _, h4⟩ := h; exact ⟨_, he, ev, yo, yc, rfl, h2, h3, h4⟩) ?_
    rintro v w9 ⟨cbev, cbo, cbc, rfl, hown, hm, hol⟩
    obtain ⟨cbw, hcbw⟩ : ∃ z, z = wresE p r (.slice ro r.data.length rc) cbev := ⟨_, rfl⟩
    rw [← hcbw] at hown hol ⊢
    obtain ⟨cb, cn⟩ := cbw
    dsimp only at hown hol ⊢
    simp only [Act.put, List.setIfInBounds_toArray, List.set_cons_succ, List.set_cons_zero]
    have HM9 := hid (HM8.out.trans hm)
    have HCB := hid hown.sl; have HCL := hid hol; have HCW := hid hcbw
    clear hm hown hol hcbw HM8 HR8 HC
    go_upto_if 82 with fail
    go_cut [] from 11 (fun wx => Hid (Mods (fun _ => False) w9 wx))
    case first =>
      by_cases hon : cn = 0
      rotate_left
      · have hon' : (cn == 0) = false := by simpa using hon
        clear hon
        go_wp2_with fail
        go_meet
        case rel => exact Mods.refl _ _
      subst hon
      have ht : there p = true := by
        cases hth : there p
        · have h := HCW.out
          rw [wresE, if_neg (by rw [hth]; decide)] at h
          injection h with _ h2
          cases h2
        · rfl
      obtain ⟨k, hpk, hk⟩ := there_nat ht
      have htk : there (k : Int) = true := by rw [← hpk]; exact ht
      obtain ⟨q4, qr⟩ := res_wr k hk htk r _ _ cb HROK.out HRO.out (by rw [← hpk]; exact HCW.out.symm)
      have hbk := res_back k hk htk cb qr
      rw [← hpk] at qr
      have hro := rresE_small p cb
      have hc := ReadRes_anyE p cbo cbc cb w9 HCB.out (by have := HCL.out; omega)
      simp only [← hpk] at hbk
      obtain ⟨rx, hrx⟩ : ∃ z, z = (rresE p cb).1 := ⟨_, rfl⟩
      rw [qr, ← hrx] at hc
      rw [← hrx] at hbk hro
      have HC := hid hc; have HBK := hid hbk; have HRO1 := hid hro; have HQ4 := hid q4
      clear hc hbk hro q4 qr hrx ht htk hk hpk HCW HROK HRO
      go_upto_region 13 with fail
      refine wp_region_list (wpList_val (v := .int .i64 p) rfl rfl ?_)
      simp only [Act.put, List.setIfInBounds_toArray, List.set_cons_succ, List.set_cons_zero]
      refine wpList_val (v := .slice cbo cb.length cbc) rfl rfl ?_
      simp only [Act.put, List.setIfInBounds_toArray, List.set_cons_succ, List.set_cons_zero]
      refine wpl_call (f := 19) (args := #[.int .i64 p, .slice cbo cb.length cbc]) (R := fun v w' => RRPE w9 rx 0 (.returned v) w') rfl (by go_simp) (HC.out.mono fun e w' h => by obtain ⟨yo, yc, zo, zc, he, h2⟩ := h; exact ⟨_, he, yo, yc, zo, zc, rfl, h2⟩) ?_
      rintro v w10 ⟨xso, xsc, xzo, xzc, hv, hsl, hfr, hse, heo, hok, hm⟩
      obtain rfl : v = .tuple #[.agg (rx.cells (.slice xso rx.data.length xsc) (.slice xzo rx.entries.length xzc)).toArray, .int .i64 0] := by injection hv
      clear hv
      simp only [Act.put, List.setIfInBounds_toArray, List.set_cons_succ, List.set_cons_zero]
      obtain ⟨xA, hxA⟩ : ∃ A, A = (rx.cells (.slice xso rx.data.length xsc) (.slice xzo rx.entries.length xzc)).toArray := ⟨_, rfl⟩
      rw [← hxA]
      have hsz : xA.size = 88 := by rw [hxA]; rfl
      have hone : xA.all (·.oneCell') = true := by rw [hxA]; exact rcells_one _ _ _ _ _ _ _
      refine wpList_val (v := .tuple #[.agg xA, .int .i64 0]) rfl rfl ?_
      simp only [Act.put, List.setIfInBounds_toArray, List.set_cons_succ, List.set_cons_zero]
      refine wpList_val (v := .agg xA) rfl (by go_simp) ?_
      simp only [Act.put, List.setIfInBounds_toArray, List.set_cons_succ, List.set_cons_zero]
      refine wpList_val (v := .int .i64 0) rfl (by go_simp) ?_
      simp only [Act.put, List.setIfInBounds_toArray, List.set_cons_succ, List.set_cons_zero]
      refine wpl_valW (v := .pointer (some ⟨w10.heap.size, 0, none⟩)) (w' := w10.alloc (.cells (zeroRes.cells (.slice none 0 0) (.slice none 0 0)).toArray 42)) rfl (by rw [rzeros_eq]; go_simp) ?_
      simp only [Act.put, List.setIfInBounds_toArray, List.set_cons_succ, List.set_cons_zero]
      obtain ⟨hb, hms, ht1⟩ := new_fill w10 (zeroRes.cells (.slice none 0 0) (.slice none 0 0)) xA 42 (by show 88 = xA.size; rw [hsz])
      refine wpList_storeC (b := w10.heap.size) (cells := xA) rfl rfl rfl rfl rfl ht1 (by rw [hsz]; kernel_rfl) hone ?_
      obtain ⟨xB, hxB⟩ : ∃ b, b = w10.heap.size := ⟨_, rfl⟩
      rw [← hxB] at hb hms ⊢
      generalize World.setCells _ _ _ _ = w11 at hb hms ⊢
      refine wpList_val (v := .int .i64 0) rfl rfl ?_
      simp only [Act.put, List.setIfInBounds_toArray, List.set_cons_succ, List.set_cons_zero]
      have xM := hid (hm.trans hms)
      have xR := hid hb
      have xSL := hid (hsl.keep hms fun _ _ h => h)
      have xSE := hid (hse.keep hms fun _ _ h => h)
      have xEO := hid heo
      have xOK := hid hok
      have xFR : Hid (∀ k, rb xso rx.data.length k → k < w11.heap.size) := fun k hk => Nat.lt_of_lt_of_le (hfr k hk).2 hms.size
      have xSZ := hid hsz; have xAE := hid hxA
      clear hm hms hsl hfr hse heo hok hb ht1 hsz hone hxA hxB
      clear HC
      have hw := WriteRes_anyE p rx xso xsc xzo xzc w11 xSL.out xFR.out xSE.out xOK.out (by have := HRO1.out.1; omega) xEO.out (by have := HRO1.out.2.1; omega) (by have := HRO1.out.2.2; omega)
      rw [← xAE.out] at hw
      have HC := hid hw
      clear hw
      go_upto_region 14 with fail
      refine wp_region_list (wpList_val (v := .int .i64 p) rfl rfl ?_)
      simp only [Act.put, List.setIfInBounds_toArray, List.set_cons_succ, List.set_cons_zero]
      refine wpList_val (v := .agg xA) rfl ?_ ?_
      · show (do pure (Next.value (← Instr.loadAt 42 (.pointer (some ⟨xB, 0, none⟩))))).run Try.prog _ = _
        rw [Sem.run_bind, load_res xR.out xSZ.out]; rfl
      simp only [Act.put, List.setIfInBounds_toArray, List.set_cons_succ, List.set_cons_zero]
      refine wpl_call (f := 18) (args := #[.int .i64 p, .agg xA]) (R := fun v w' => ∃ ev yo yc, v = .tuple #[.slice yo (wresE p rx (.slice xso rx.data.length xsc) ev).1.length yc, .int .i64 (wresE p rx (.slice xso rx.data.length xsc) ev).2] ∧ OwnB w' yo yc (wresE p rx (.slice xso rx.data.length xsc) ev).1 ∧ Mods (fun _ => False) w11 w' ∧ (wresE p rx (.slice xso rx.data.length xsc) ev).1.length ≤ 20000000) rfl (by go_simp) (HC.out.mono fun e w' h => by obtain ⟨ev, yo, yc, he, h2, h3, _, h4⟩ := h; exact ⟨_, he, ev, yo, yc, rfl, h2, h3, h4⟩) ?_
      rintro v w12 ⟨dbev, dbo, dbc, rfl, hown, hm, hol⟩
      obtain ⟨dbw, hdbw⟩ : ∃ z, z = wresE p rx (.slice xso rx.data.length xsc) dbev := ⟨_, rfl⟩
      rw [← hdbw] at hown hol ⊢
      obtain ⟨db, dn⟩ := dbw
      dsimp only at hown hol ⊢
      simp only [Act.put, List.setIfInBounds_toArray, List.set_cons_succ, List.set_cons_zero]
      have hdd := hdbw.trans (HBK.out _ _)
      injection hdd with hd1 hd2
      have hd1' := hd1.symm
      subst hd1' hd2
      have c1 := run_conv (HCB.out.keep (xM.out.trans hm) fun _ _ h => h)
      have c2 := run_conv hown.sl
      have h4 : ((cb.length : Int) % 4 != 0) = false := by
        have := HQ4.out
        rw [bne_eq_false_iff_eq]
        omega
      have MM := hid (xM.out.trans hm)
      have hlen : (cb.length : Int) ≤ 20000000 := by have := HCL.out; omega
      clear hm hown hol HC hdbw hd1
      go_wp2_with fail
      go_meet
      case rel => exact MM.out

    case rest =>
      obtain ⟨w13, rfl⟩ : ∃ z, z = wc := ⟨_, rfl⟩
      have HM13 := hid (HM9.out.trans hcut.out)
      clear hcut HM9 HCB HCL HCW HROK HRO
      have hc := ReadArgs_any p so sc bs w13 (HS.out.keep HM13.out fun _ _ h => h) (by have := HBIG.out; omega)
      have hro := rargs_ok p bs
      obtain ⟨rr, hrr⟩ : ∃ z, z = rargs p bs := ⟨_, rfl⟩
      rw [← hrr] at hc hro
      have HRR := hid hrr
      clear hrr
      obtain ⟨rx, rn⟩ := rr
      have HC := hid hc; have HRO1 := hid hro
      clear hc hro
      go_upto_region 17 with fail
      refine wp_region_list (wpList_val (v := .int .i64 p) rfl rfl ?_)
      simp only [Act.put, List.setIfInBounds_toArray, List.set_cons_succ, List.set_cons_zero]
      refine wpList_val (v := .slice so bs.length sc) rfl rfl ?_
      simp only [Act.put, List.setIfInBounds_toArray, List.set_cons_succ, List.set_cons_zero]
      refine wpl_call (f := 10) (args := #[.int .i64 p, .slice so bs.length sc]) (R := fun v w' => RAP w13 rx rn (.returned v) w') rfl (by go_simp) (HC.out.mono fun e w' h => by obtain ⟨yo, yc, he, h2⟩ := h; exact ⟨_, he, yo, yc, rfl, h2⟩) ?_
      rintro v w14 ⟨xso, xsc, hv, hsl, hfr, hm⟩
      obtain rfl : v = .tuple #[.agg (rx.cells (.slice xso rx.data.length xsc)).toArray, .int .i64 rn] := by injection hv
      clear hv
      simp only [Act.put, List.setIfInBounds_toArray, List.set_cons_succ, List.set_cons_zero]
      obtain ⟨xA, hxA⟩ : ∃ A, A = (rx.cells (.slice xso rx.data.length xsc)).toArray := ⟨_, rfl⟩
      rw [← hxA]
      have hsz : xA.size = 36 := by rw [hxA]; rfl
      have hone : xA.all (·.oneCell') = true := by rw [hxA]; exact cells_one _ _ _ _
      refine wpList_val (v := .tuple #[.agg xA, .int .i64 rn]) rfl rfl ?_
      simp only [Act.put, List.setIfInBounds_toArray, List.set_cons_succ, List.set_cons_zero]
      refine wpList_val (v := .agg xA) rfl (by go_simp) ?_
      simp only [Act.put, List.setIfInBounds_toArray, List.set_cons_succ, List.set_cons_zero]
      refine wpList_val (v := .int .i64 rn) rfl (by go_simp) ?_
      simp only [Act.put, List.setIfInBounds_toArray, List.set_cons_succ, List.set_cons_zero]
      refine wpl_valW (v := .pointer (some ⟨w14.heap.size, 0, none⟩)) (w' := w14.alloc (.cells (zeroArgs.cells (.slice none 0 0)).toArray 30)) rfl (by rw [zeros_eq]; go_simp; try rfl) ?_
      simp only [Act.put, List.setIfInBounds_toArray, List.set_cons_succ, List.set_cons_zero]
      obtain ⟨hb, hms, ht1⟩ := new_fill w14 (zeroArgs.cells (.slice none 0 0)) xA 30 (by show 36 = xA.size; rw [hsz])
      refine wpList_storeC (b := w14.heap.size) (cells := xA) rfl rfl rfl rfl rfl ht1 (by rw [hsz]; kernel_rfl) hone ?_
      obtain ⟨xB, hxB⟩ : ∃ b, b = w14.heap.size := ⟨_, rfl⟩
      rw [← hxB] at hb hms ⊢
      generalize World.setCells _ _ _ _ = w15 at hb hms ⊢
      refine wpList_val (v := .int .i64 rn) rfl rfl ?_
      simp only [Act.put, List.setIfInBounds_toArray, List.set_cons_succ, List.set_cons_zero]
      have xM := hid (hm.trans hms)
      have xR := hid hb
      have xSL := hid (hsl.keep hms fun _ _ h => h)
      have xFR : Hid (∀ k, rb xso rx.data.length k → k < w15.heap.size) := fun k hk => Nat.lt_of_lt_of_le (hfr k hk).2 hms.size
      have xSZ := hid hsz; have xAE := hid hxA
      clear hm hms hsl hfr hb ht1 hsz hone hxA hxB
      have HM15 := hid (HM13.out.trans xM.out)
      clear HM13 xM HC
      go_upto_if 121 with fail
      go_cut [] from 11 (fun wx => Hid (Mods (fun _ => False) w15 wx))
      case first =>
        by_cases hon : rn = 0
        rotate_left
        · have hon' : (rn == 0) = false := by simpa using hon
          clear hon
          go_wp2_with fail
          go_meet
          case rel => exact Mods.refl _ _
        subst hon
        have ht : there p = true := by
          cases hth : there p
          · have h := HRR.out
            rw [rargs, if_neg (by rw [hth]; decide)] at h
            injection h with _ h2
            cases h2
          · rfl
        obtain ⟨k, hpk, hk⟩ := there_nat ht
        have htk : there (k : Int) = true := by rw [← hpk]; exact ht
        have hbk := args_back' k hk htk bs (by rw [← hpk, ← HRR.out])
        simp only [← hpk, ← HRR.out] at hbk
        have HBK := hid hbk
        clear hbk ht htk hk hpk HRR
        have hw := WriteArgs_typ p rx xso xsc w15 xSL.out xFR.out (HRO1.out.1 _) (Nat.le_trans HRO1.out.2 (by decide))
        rw [HBK.out, ← xAE.out] at hw
        have HC := hid hw
        clear hw
        go_upto_region 19 with fail
        refine wp_region_list (wpList_val (v := .int .i64 p) rfl rfl ?_)
        simp only [Act.put, List.setIfInBounds_toArray, List.set_cons_succ, List.set_cons_zero]
        refine wpList_val (v := .agg xA) rfl ?_ ?_
        · show (do pure (Next.value (← Instr.loadAt 30 (.pointer (some ⟨xB, 0, none⟩))))).run Try.prog _ = _
          rw [Sem.run_bind, load_args xR.out xSZ.out]; rfl
        simp only [Act.put, List.setIfInBounds_toArray, List.set_cons_succ, List.set_cons_zero]
        refine wpl_call (f := 12) (args := #[.int .i64 p, .agg xA]) (R := fun v w' => ∃ yo yc, v = .tuple #[.slice yo bs.length yc, .int .i64 0] ∧ OwnB w' yo yc bs ∧ Mods (fun _ => False) w15 w' ∧ bs.length ≤ 20000000) rfl (by go_simp) (HC.out.mono fun e w' h => by obtain ⟨yo, yc, he, h2, h3, _, h4⟩ := h; exact ⟨_, he, yo, yc, rfl, h2, h3, h4⟩) ?_
        rintro v w16 ⟨bso, bsc, rfl, hown, hm, hol⟩
        simp only [Act.put, List.setIfInBounds_toArray, List.set_cons_succ, List.set_cons_zero]
        have c1 := run_conv hown.sl
        have c2 := run_conv (HS.out.keep (HM15.out.trans hm) fun _ _ h => h)
        have MM := hid hm
        clear hm hown hol HC
        go_wp2_with fail
        go_meet
        case rel => exact MM.out

      case rest =>
        obtain ⟨w17, rfl⟩ : ∃ z, z = wc := ⟨_, rfl⟩
        have HM17 := hid (HM15.out.trans hcut.out)
        clear hcut HM15 xSL xFR xR xSZ xAE HRO1 HRR
        have hc := ReadRes_anyE p so sc bs w17 (HS.out.keep HM17.out fun _ _ h => h) (by have := HBIG.out; omega)
        have hro := rresE_small p bs
        obtain ⟨rr, hrr⟩ : ∃ z, z = rresE p bs := ⟨_, rfl⟩
        rw [← hrr] at hc hro
        have HRR := hid hrr
        clear hrr
        obtain ⟨ry, yn⟩ := rr
        have HC := hid hc; have HRO1 := hid hro
        clear hc hro
        go_upto_region 22 with fail
        refine wp_region_list (wpList_val (v := .int .i64 p) rfl rfl ?_)
        simp only [Act.put, List.setIfInBounds_toArray, List.set_cons_succ, List.set_cons_zero]
        refine wpList_val (v := .slice so bs.length sc) rfl rfl ?_
        simp only [Act.put, List.setIfInBounds_toArray, List.set_cons_succ, List.set_cons_zero]
        refine wpl_call (f := 19) (args := #[.int .i64 p, .slice so bs.length sc]) (R := fun v w' => RRPE w17 ry yn (.returned v) w') rfl (by go_simp) (HC.out.mono fun e w' h => by obtain ⟨yo, yc, zo, zc, he, h2⟩ := h; exact ⟨_, he, yo, yc, zo, zc, rfl, h2⟩) ?_
        rintro v w18 ⟨yso, ysc, yzo, yzc, hv, hsl, hfr, hse, heo, hok, hm⟩
        obtain rfl : v = .tuple #[.agg (ry.cells (.slice yso ry.data.length ysc) (.slice yzo ry.entries.length yzc)).toArray, .int .i64 yn] := by injection hv
        clear hv
        simp only [Act.put, List.setIfInBounds_toArray, List.set_cons_succ, List.set_cons_zero]
        obtain ⟨yA, hyA⟩ : ∃ A, A = (ry.cells (.slice yso ry.data.length ysc) (.slice yzo ry.entries.length yzc)).toArray := ⟨_, rfl⟩
        rw [← hyA]
        have hsz : yA.size = 88 := by rw [hyA]; rfl
        have hone : yA.all (·.oneCell') = true := by rw [hyA]; exact rcells_one _ _ _ _ _ _ _
        refine wpList_val (v := .tuple #[.agg yA, .int .i64 yn]) rfl rfl ?_
        simp only [Act.put, List.setIfInBounds_toArray, List.set_cons_succ, List.set_cons_zero]
        refine wpList_val (v := .agg yA) rfl (by go_simp) ?_
        simp only [Act.put, List.setIfInBounds_toArray, List.set_cons_succ, List.set_cons_zero]
        refine wpList_val (v := .int .i64 yn) rfl (by go_simp) ?_
        simp only [Act.put, List.setIfInBounds_toArray, List.set_cons_succ, List.set_cons_zero]
        refine wpl_valW (v := .pointer (some ⟨w18.heap.size, 0, none⟩)) (w' := w18.alloc (.cells (zeroRes.cells (.slice none 0 0) (.slice none 0 0)).toArray 42)) rfl (by rw [rzeros_eq]; go_simp) ?_
        simp only [Act.put, List.setIfInBounds_toArray, List.set_cons_succ, List.set_cons_zero]
        obtain ⟨hb, hms, ht1⟩ := new_fill w18 (zeroRes.cells (.slice none 0 0) (.slice none 0 0)) yA 42 (by show 88 = yA.size; rw [hsz])
        refine wpList_storeC (b := w18.heap.size) (cells := yA) rfl rfl rfl rfl rfl ht1 (by rw [hsz]; kernel_rfl) hone ?_
        obtain ⟨yB, hyB⟩ : ∃ b, b = w18.heap.size := ⟨_, rfl⟩
        rw [← hyB] at hb hms ⊢
        generalize World.setCells _ _ _ _ = w19 at hb hms ⊢
        refine wpList_val (v := .int .i64 yn) rfl rfl ?_
        simp only [Act.put, List.setIfInBounds_toArray, List.set_cons_succ, List.set_cons_zero]
        have yM := hid (hm.trans hms)
        have yR := hid hb
        have ySL := hid (hsl.keep hms fun _ _ h => h)
        have ySE := hid (hse.keep hms fun _ _ h => h)
        have yEO := hid heo
        have yOK := hid hok
        have yFR : Hid (∀ k, rb yso ry.data.length k → k < w19.heap.size) := fun k hk => Nat.lt_of_lt_of_le (hfr k hk).2 hms.size
        have ySZ := hid hsz; have yAE := hid hyA
        clear hm hms hsl hfr hse heo hok hb ht1 hsz hone hyA hyB
        have HM19 := hid (HM17.out.trans yM.out)
        clear HM17 yM HC
        by_cases hon : yn = 0
        rotate_left
        · have hon' : (yn == 0) = false := by simpa using hon
          have hz : ry = zeroRes := by
            have h := rresE_zero p bs (by rw [← HRR.out]; exact hon)
            rw [← HRR.out] at h
            exact h
          subst hz
          clear hon
          have hsame : Calls Try.prog 17 #[.agg yA, .agg (zeroRes.cells (.slice none 0 0) (.slice none 0 0)).toArray] w19 fun e w' => e = .returned (.bool true) ∧ Mods (fun _ => False) w19 w' := by
            rw [yAE.out, ← eqb_self zeroRes]
            exact refSameRes_any zeroRes zeroRes yso none ysc 0 w19 ySL.out (SlB.nil _) yzo none yzc 0 ySE.out (Sl.nil _ _) (by decide) (by decide)
          have HC := hid hsame
          clear hsame
          go_upto_region 26 with fail
          refine wp_region_list ?_
          refine wpList_val (v := .agg yA) rfl ?_ ?_
          · show (do pure (Next.value (← Instr.loadAt 42 (.pointer (some ⟨yB, 0, none⟩))))).run Try.prog _ = _
            rw [Sem.run_bind, load_res yR.out ySZ.out]; rfl
          simp only [Act.put, List.setIfInBounds_toArray, List.set_cons_succ, List.set_cons_zero]
          refine wpList_val (v := .agg (zeroRes.cells (.slice none 0 0) (.slice none 0 0)).toArray) rfl (by rw [rzeros_eq]; go_simp) ?_
          simp only [Act.put, List.setIfInBounds_toArray, List.set_cons_succ, List.set_cons_zero]
          refine wpl_call (f := 17) (args := #[.agg yA, .agg (zeroRes.cells (.slice none 0 0) (.slice none 0 0)).toArray]) (R := fun v w' => v = .bool true ∧ Mods (fun _ => False) w19 w') rfl (by go_simp) (HC.out.mono fun e w' h => ⟨_, h.1, rfl, h.2⟩) ?_
          rintro v w20 ⟨rfl, hm⟩
          simp only [Act.put, List.setIfInBounds_toArray, List.set_cons_succ, List.set_cons_zero]
          have HM20 := hid (HM19.out.trans hm)
          clear hm HC
          go_wp2
          go_ret
          exact ⟨rfl, HM20.out⟩
        subst hon
        have ht : there p = true := by
          cases hth : there p
          · have h := HRR.out
            rw [rresE, if_neg (by rw [hth]; decide)] at h
            injection h with _ h2
            cases h2
          · rfl
        obtain ⟨k, hpk, hk⟩ := there_nat ht
        have htk : there (k : Int) = true := by rw [← hpk]; exact ht
        have hbk := res_back k hk htk bs (by rw [← hpk, ← HRR.out])
        simp only [← hpk, ← HRR.out] at hbk
        have HBK := hid hbk
        clear hbk ht htk hk hpk HRR
        have hw := WriteRes_anyE p ry yso ysc yzo yzc w19 ySL.out yFR.out ySE.out yOK.out (Nat.le_trans HRO1.out.1 (by decide)) yEO.out (Nat.le_trans HRO1.out.2.1 (by decide)) (Nat.le_trans HRO1.out.2.2 (by decide))
        rw [← yAE.out] at hw
        have HC := hid hw
        clear hw
        go_upto_region 24 with fail
        refine wp_region_list (wpList_val (v := .int .i64 p) rfl rfl ?_)
        simp only [Act.put, List.setIfInBounds_toArray, List.set_cons_succ, List.set_cons_zero]
        refine wpList_val (v := .agg yA) rfl ?_ ?_
        · show (do pure (Next.value (← Instr.loadAt 42 (.pointer (some ⟨yB, 0, none⟩))))).run Try.prog _ = _
          rw [Sem.run_bind, load_res yR.out ySZ.out]; rfl
        simp only [Act.put, List.setIfInBounds_toArray, List.set_cons_succ, List.set_cons_zero]
        refine wpl_call (f := 18) (args := #[.int .i64 p, .agg yA]) (R := fun v w' => ∃ ev yo yc, v = .tuple #[.slice yo (wresE p ry (.slice yso ry.data.length ysc) ev).1.length yc, .int .i64 (wresE p ry (.slice yso ry.data.length ysc) ev).2] ∧ OwnB w' yo yc (wresE p ry (.slice yso ry.data.length ysc) ev).1 ∧ Mods (fun _ => False) w19 w' ∧ (wresE p ry (.slice yso ry.data.length ysc) ev).1.length ≤ 20000000) rfl (by go_simp) (HC.out.mono fun e w' h => by obtain ⟨ev, yo, yc, he, h2, h3, _, h4⟩ := h; exact ⟨_, he, ev, yo, yc, rfl, h2, h3, h4⟩) ?_
        rintro v w20 ⟨dbev, dbo, dbc, rfl, hown, hm, hol⟩
        obtain ⟨dbw, hdbw⟩ : ∃ z, z = wresE p ry (.slice yso ry.data.length ysc) dbev := ⟨_, rfl⟩
        rw [← hdbw] at hown hol ⊢
        obtain ⟨db, dn⟩ := dbw
        dsimp only at hown hol ⊢
        simp only [Act.put, List.setIfInBounds_toArray, List.set_cons_succ, List.set_cons_zero]
        have hdd := hdbw.trans (HBK.out _ _)
        injection hdd with hd1 hd2
        have hd1' := hd1.symm
        subst hd1' hd2
        have c1 := run_conv hown.sl
        have c2 := run_conv (HS.out.keep (HM19.out.trans hm) fun _ _ h => h)
        have HM20 := hid (HM19.out.trans hm)
        clear hm hown hol HC hdbw hd1
        go_wp2
        go_ret
        exact ⟨rfl, HM20.out⟩

end Go.Proofs.Ytanknjpcgceccaa
