/- law19's NfsxArgs answers true. -/
import Derived.Test.YtanknjpcgceccaaGen12
import Derived.Test.YtanknjpcgceccaaRo7
import Derived.Test.YtanknjpcgceccaaRi5
import Derived.Test.YtanknjpcgceccaaSameA
import Derived.Test.YtanknjpcgceccaaKnown19
namespace Go.Proofs.Ytanknjpcgceccaa
open Go.RowKit

abbrev Ans2 (w : World) (b : Bool) (e : Ending) (w' : World) : Prop := e = .returned (.bool b) ∧ Mods (fun _ => False) w w'
def zAttr : AttrV := ⟨0, 0, 0, 0, 0, 0, 0, 0, ⟨0, 0⟩, ⟨0, 0⟩, ⟨0, 0⟩⟩
def zRes : ResV := ⟨0, ⟨false, zAttr⟩, ⟨false, zAttr⟩, ⟨false, 0, ⟨0, 0⟩, ⟨0, 0⟩⟩, ⟨false, 0, ⟨0, 0⟩, ⟨0, 0⟩⟩, ⟨false, zAttr⟩, ⟨false, zAttr⟩, false, [], 0, [], 0, false, [], 0, 0, 0, [], 0, 0, 0, 0⟩
def zResC : Array Value := (zRes.cells (.slice none 0 0) (.slice none 0 0)).toArray

theorem zRes_eq : zResC = #[.int .i64 0, .bool false, .int .i64 0, .int .i64 0, .int .i64 0, .int .u32 0, .int .u32 0, .int .u64 0, .int .u64 0, .int .u64 0, .int .u32 0, .int .u32 0, .int .u32 0, .int .u32 0, .int .u32 0, .int .u32 0, .bool false, .int .i64 0, .int .i64 0, .int .i64 0, .int .u32 0, .int .u32 0, .int .u64 0, .int .u64 0, .int .u64 0, .int .u32 0, .int .u32 0, .int .u32 0, .int .u32 0, .int .u32 0, .int .u32 0, .bool false, .int .u64 0, .int .u32 0, .int .u32 0, .int .u32 0, .int .u32 0, .bool false, .int .u64 0, .int .u32 0, .int .u32 0, .int .u32 0, .int .u32 0, .bool false, .int .i64 0, .int .i64 0, .int .i64 0, .int .u32 0, .int .u32 0, .int .u64 0, .int .u64 0, .int .u64 0, .int .u32 0, .int .u32 0, .int .u32 0, .int .u32 0, .int .u32 0, .int .u32 0, .bool false, .int .i64 0, .int .i64 0, .int .i64 0, .int .u32 0, .int .u32 0, .int .u64 0, .int .u64 0, .int .u64 0, .int .u32 0, .int .u32 0, .int .u32 0, .int .u32 0, .int .u32 0, .int .u32 0, .bool false, .string ⟨#[]⟩, .int .u32 0, .string ⟨#[]⟩, .int .u32 0, .bool false, .slice none 0 0, .int .i64 0, .int .u64 0, .int .u64 0, .slice none 0 0, .int .u64 0, .int .u64 0, .int .u64 0, .int .u64 0] := rfl
/-- A struct laid into a new variable. -/
theorem store_new (w : World) (A : Array Value) (h36 : A.size = 36) : (w.alloc (.cells (zeroArgs.cells (.slice none 0 0)).toArray 30)).there w.heap.size 0 A.size ∧
    ((w.alloc (.cells (zeroArgs.cells (.slice none 0 0)).toArray 30)).setCells w.heap.size 0 A.toList).rangeAt w.heap.size 0 A.toList ∧
    Mods (fun _ => False) w ((w.alloc (.cells (zeroArgs.cells (.slice none 0 0)).toArray 30)).setCells w.heap.size 0 A.toList) := by
  have hb := Blk.new w (zeroArgs.cells (.slice none 0 0)).toArray 30
  have ht : (w.alloc (.cells (zeroArgs.cells (.slice none 0 0)).toArray 30)).there w.heap.size 0 A.size := hb.there fun j hj => by
    rw [h36] at hj
    rw [Nat.zero_add]
    simp only [List.getElem?_toArray]
    rw [List.getElem?_eq_getElem (show j < (zeroArgs.cells (.slice none 0 0)).length from hj)]
    rfl
  exact ⟨ht, World.rangeAt_setCells_same _ _ _ _ (by rw [Array.length_toList]; exact ht), (Mods.alloc _ _ _).step (Mods.setCells (F := fun k => k = w.heap.size) _ rfl) fun k hk e => absurd hk (by omega)⟩
theorem load_args {w : World} {g : Nat} {A : Array Value} (h : w.rangeAt g 0 A.toList) (hi : A.size = 36) :
    (Instr.loadAt 30 (.pointer (some ⟨g, 0, none⟩))).run Try.prog w = .ok (.agg A) w := by
  have := run_loadAt_mid (P := Try.prog) w g 0 30 A.toList _ h Try.underlying30 rfl (by rw [Array.length_toList, hi]; kernel_rfl)
  simpa using this
set_option maxRecDepth 100000 in
set_option maxHeartbeats 4000000 in
theorem Few_any (a : ArgsV) (xo : Option Addr) (xc : Nat) (w : World) (h0 : a.file.length ≤ 140737488355328) (h1 : a.to.length ≤ 140737488355328) (h2 : a.name.length ≤ 140737488355328) (h3 : a.toName.length ≤ 140737488355328) (h4 : a.path.length ≤ 140737488355328) (h5 : a.data.length ≤ 140737488355328) :
    Calls Try.prog 9 #[.agg (a.cells (.slice xo a.data.length xc)).toArray, .agg zResC] w (Ans2 w (decide ((a.file.length : Int) + a.to.length + a.name.length + a.toName.length + a.path.length + a.data.length < 30000))) := by
  obtain ⟨A, hA⟩ : ∃ A, A = (a.cells (.slice xo a.data.length xc)).toArray := ⟨_, rfl⟩
  obtain ⟨R, hR⟩ : ∃ A, A = zResC := ⟨_, rfl⟩
  rw [← hA, ← hR]
  obtain ⟨n0, e0⟩ : ∃ n, n = a.file.length := ⟨_, rfl⟩
  obtain ⟨n1, e1⟩ : ∃ n, n = a.to.length := ⟨_, rfl⟩
  obtain ⟨n2, e2⟩ : ∃ n, n = a.name.length := ⟨_, rfl⟩
  obtain ⟨n3, e3⟩ : ∃ n, n = a.toName.length := ⟨_, rfl⟩
  obtain ⟨n4, e4⟩ : ∃ n, n = a.path.length := ⟨_, rfl⟩
  obtain ⟨n5, e5⟩ : ∃ n, n = a.data.length := ⟨_, rfl⟩
  have k0 : (str a.file).size = n0 := by rw [e0]; rfl
  have k1 : (str a.to).size = n1 := by rw [e1]; rfl
  have k2 : (str a.name).size = n2 := by rw [e2]; rfl
  have k3 : (str a.toName).size = n3 := by rw [e3]; rfl
  have k4 : (str a.path).size = n4 := by rw [e4]; rfl
  rw [← e0] at h0; rw [← e1] at h1; rw [← e2] at h2; rw [← e3] at h3; rw [← e4] at h4; rw [← e5] at h5
  rw [← e0, ← e1, ← e2, ← e3, ← e4, ← e5]
  have HA := hid hA; have HR := hid hR; have HN5 := hid e5
  clear hA hR e0 e1 e2 e3 e4 e5
  go_enter Try.func9, Try.ntmps9
  go_upto_region 1 with fail
  have hb1 : Blk (w.alloc (.cells A 30)) w.heap.size (fun j => A[j]?) := Blk.new w _ _
  have hm1 : Mods (fun _ => False) w (w.alloc (.cells A 30)) := Mods.alloc _ _ _
  have hb2 : Blk ((w.alloc (.cells A 30)).alloc (.cells R 42)) (w.heap.size + 1) (fun j => R[j]?) := by
    have := Blk.new (w.alloc (.cells A 30)) R 42
    simpa using this
  have hm2 : Mods (fun _ => False) (w.alloc (.cells A 30)) ((w.alloc (.cells A 30)).alloc (.cells R 42)) := Mods.alloc _ _ _
  have hb1' := hb1.keep hm2 fun h => h
  have HM := hid (hm1.trans hm2)
  generalize (w.alloc (.cells A 30)).alloc (.cells R 42) = w0 at hb1' hb2 HM ⊢
  clear hb1 hm1 hm2
  have c0 : w0.cell? ⟨w.heap.size, 0, none⟩ = some (.string (str a.file)) := by rw [hb1'.cell, HA.out]; rfl
  have c1 : w0.cell? ⟨w.heap.size, 1, none⟩ = some (.string (str a.to)) := by rw [hb1'.cell, HA.out]; rfl
  have c2 : w0.cell? ⟨w.heap.size, 2, none⟩ = some (.string (str a.name)) := by rw [hb1'.cell, HA.out]; rfl
  have c3 : w0.cell? ⟨w.heap.size, 3, none⟩ = some (.string (str a.toName)) := by rw [hb1'.cell, HA.out]; rfl
  have c4 : w0.cell? ⟨w.heap.size, 4, none⟩ = some (.string (str a.path)) := by rw [hb1'.cell, HA.out]; rfl
  have c5 : w0.cell? ⟨w.heap.size, 28, none⟩ = some (.slice xo n5 xc) := by rw [hb1'.cell, HA.out, HN5.out]; rfl
  obtain ⟨s5, hs5⟩ : ∃ s, s = str [] := ⟨_, rfl⟩
  have d0 : w0.cell? ⟨w.heap.size + 1, 74, none⟩ = some (.string s5) := by rw [hb2.cell, HR.out, hs5]; rfl
  have d1 : w0.cell? ⟨w.heap.size + 1, 76, none⟩ = some (.string s5) := by rw [hb2.cell, HR.out, hs5]; rfl
  have d2 : w0.cell? ⟨w.heap.size + 1, 79, none⟩ = some (.slice none 0 0) := by rw [hb2.cell, HR.out]; rfl
  have d3 : w0.cell? ⟨w.heap.size + 1, 83, none⟩ = some (.slice none 0 0) := by rw [hb2.cell, HR.out]; rfl
  have k5 : s5.size = 0 := by rw [hs5]; rfl
  clear hs5
  clear hb1' hb2
  generalize str a.file = s0 at *
  generalize str a.to = s1 at *
  generalize str a.name = s2 at *
  generalize str a.toName = s3 at *
  generalize str a.path = s4 at *
  by_cases hsum : (n0 : Int) + n1 + n2 + n3 + n4 + n5 < 30000
  · clear HA HR HN5
    go_wp2
    go_ret
    exact ⟨by rw [decide_eq_true (by omega)]; rfl, HM.out⟩
  · clear HA HR HN5
    go_wp2
    go_ret
    exact ⟨by rw [decide_eq_false (by omega)]; rfl, HM.out⟩

set_option maxRecDepth 100000 in
set_option maxHeartbeats 8000000 in
theorem nfsxArgs_any (p : Int) (so : Option Addr) (sc : Nat) (bs : List UInt8) (a : ArgsV) (xo : Option Addr) (xc : Nat) (w : World) (hs : SlB w so sc bs) (hsb : ∀ k, rb so bs.length k → k < w.heap.size) (hx : SlB w xo xc a.data) (hxb : ∀ k, rb xo a.data.length k → k < w.heap.size) (hg : a.good)
    (h0 : a.file.length ≤ 140737488355328) (h1 : a.to.length ≤ 140737488355328) (h2 : a.name.length ≤ 140737488355328) (h3 : a.toName.length ≤ 140737488355328) (h4 : a.path.length ≤ 140737488355328) (h5 : a.data.length ≤ 140737488355328) :
    Calls Try.prog 3 #[.int .i64 p, .slice so bs.length sc, .agg (a.cells (.slice xo a.data.length xc)).toArray] w (Ans2 w true) := by
  have HFEW := hid (fun w' => Few_any a xo xc w' h0 h1 h2 h3 h4 h5)
  obtain ⟨few, hfew⟩ : ∃ f, f = decide ((a.file.length : Int) + a.to.length + a.name.length + a.toName.length + a.path.length + a.data.length < 30000) := ⟨_, rfl⟩
  rw [← hfew] at HFEW
  have HF := hid hfew
  have HS := hid hs; have HSB := hid hsb; have HX := hid hx; have HXB := hid hxb; have HG := hid hg
  clear h0 h1 h2 h3 h4 h5 hfew hs hsb hx hxb hg
  obtain ⟨A, hA⟩ : ∃ A, A = (a.cells (.slice xo a.data.length xc)).toArray := ⟨_, rfl⟩
  rw [← hA] at HFEW ⊢
  have HA := hid hA
  clear hA
  go_enter Try.func3, Try.ntmps3
  go_upto_region 1 with fail
  have hA1 : (w.alloc (.cells A 30)).rangeAt w.heap.size 0 A.toList := by have h := rangeAt_new w A.toList 30; simpa using h
  have hm1 : Mods (fun _ => False) w (w.alloc (.cells A 30)) := Mods.alloc _ _ _
  generalize w.alloc (.cells A 30) = w1 at hA1 hm1 ⊢
  have HA1 := hid hA1; have HM1 := hid hm1
  clear hA1 hm1
  go_wp2_with fail
  refine (known_any _).mono ?_
  rintro e w2 ⟨rfl, hm⟩
  have HM2 := hid (HM1.out.trans hm)
  have HA2 := hid (rangeAt_keep HA1.out hm fun h => h)
  clear hm HM1 HA1
  by_cases hbig : 32768 < (bs.length : Int)
  · go_wp2
    go_ret
    exact ⟨rfl, HM2.out⟩
  · go_upto_region 3 with fail
    have HBIG := hid hbig
    clear hbig
    refine wp_region_list (wpList_val (v := .slice so bs.length sc) rfl rfl ?_)
    simp only [Act.put, List.setIfInBounds_toArray, List.set_cons_succ, List.set_cons_zero]
    refine wpList_val (v := .int .i64 (bs.length : Int)) rfl (by go_simp) ?_
    simp only [Act.put, List.setIfInBounds_toArray, List.set_cons_succ, List.set_cons_zero]
    refine wpList_val (v := .bool false) rfl (by have := HBIG.out; go_simp) ?_
    simp only [Act.put, List.setIfInBounds_toArray, List.set_cons_succ, List.set_cons_zero]
    refine wpList_val (v := .bool false) rfl rfl ?_
    simp only [Act.put, List.setIfInBounds_toArray, List.set_cons_succ, List.set_cons_zero]
    refine wpList_val (v := .agg A) rfl ?_ ?_
    · show (do pure (Next.value (← Instr.loadAt 30 (.pointer (some ⟨w.heap.size, 0, none⟩))))).run Try.prog _ = _
      rw [Sem.run_bind, load_args HA2.out (by rw [HA.out]; rfl)]; rfl
    simp only [Act.put, List.setIfInBounds_toArray, List.set_cons_succ, List.set_cons_zero]
    refine wpList_val (v := .agg zResC) rfl (by rw [zRes_eq]; go_simp; rfl) ?_
    simp only [Act.put, List.setIfInBounds_toArray, List.set_cons_succ, List.set_cons_zero]
    refine wpl_call (f := 9) (args := #[.agg A, .agg zResC]) (R := fun v w' => v = .bool few ∧ Mods (fun _ => False) w2 w') rfl (by go_simp) ((HFEW.out _).mono fun e w' h => ⟨_, h.1, rfl, h.2⟩) ?_
    rintro v w3 ⟨rfl, hm⟩
    simp only [Act.put, List.setIfInBounds_toArray, List.set_cons_succ, List.set_cons_zero]
    have HM3 := hid (HM2.out.trans hm)
    have HA3 := hid (rangeAt_keep HA2.out hm fun h => h)
    clear hm HM2 HA2 HFEW
    cases few
    · go_wp2
      go_ret
      exact ⟨rfl, HM3.out⟩
    · go_wp2_with (at_builtin; refine wpList_appB _ rfl _ _ rfl _ _ _ [] rfl rfl ?c1 _ _ _ bs rfl rfl ((HS.out.keep HM3.out fun _ _ h => h).alloc _) ?c2 ?_)
      case c2 => have := HBIG.out; simp; omega
      case c1 => exact OwnB.empty _
      intro mo mcap cs' w4 hcs hown hg
      obtain rfl : cs' = bs := hcs
      have HM4 : Hid (Mods (fun _ => False) w w4) := HM3.out.trans ((Mods.alloc _ _ _).step hg.mods fun k hk h => by cases h; simp at hk)
      have HA4 : Hid (w4.rangeAt w.heap.size 0 A.toList) := rangeAt_keep (rangeAt_keep HA3.out (Mods.alloc (fun _ => False) _ _) fun h => h) hg.mods fun h => by
        have h3 := World.block_lt_of_cell? w3 ⟨w.heap.size, 0 + 0, none⟩ (HA3.out 0 (.string (str a.file)) (by rw [HA.out]; rfl))
        have h4 : w3.heap.size = w.heap.size := h
        simp only at h3
        omega
      have HOWN := hid hown
      clear hown hg HM3 HA3
      obtain ⟨rx, hrx⟩ : ∃ z, z = (rargs p cs').1 := ⟨_, rfl⟩
      obtain ⟨rn, hrn⟩ : ∃ z, z = (rargs p cs').2 := ⟨_, rfl⟩
      have hr1 := ReadArgs_any p mo mcap cs' w4 HOWN.out.sl (by have := HBIG.out; omega)
      rw [← hrx, ← hrn] at hr1
      have HR1 := hid hr1
      clear hr1
      go_upto_region 6 with fail
      refine wp_region_list (wpList_val (v := .int .i64 p) rfl rfl ?_)
      simp only [Act.put, List.setIfInBounds_toArray, List.set_cons_succ, List.set_cons_zero]
      refine wpList_val (v := .slice mo cs'.length mcap) rfl rfl ?_
      simp only [Act.put, List.setIfInBounds_toArray, List.set_cons_succ, List.set_cons_zero]
      refine wpl_call (f := 10) (args := #[.int .i64 p, .slice mo cs'.length mcap]) (R := fun v w' => RAP w4 rx rn (.returned v) w') rfl (by go_simp) (HR1.out.mono fun e w' h => by obtain ⟨yo, yc, he, h2⟩ := h; exact ⟨_, he, yo, yc, rfl, h2⟩) ?_
      rintro v w5 ⟨yo, yc, hv, hsl, hfr, hm⟩
      obtain rfl : v = .tuple #[.agg (rx.cells (.slice yo rx.data.length yc)).toArray, .int .i64 rn] := by injection hv
      clear hv
      simp only [Act.put, List.setIfInBounds_toArray, List.set_cons_succ, List.set_cons_zero]
      obtain ⟨yA, hyA⟩ : ∃ A, A = (rx.cells (.slice yo rx.data.length yc)).toArray := ⟨_, rfl⟩
      rw [← hyA]
      have h36 : yA.size = 36 := by rw [hyA]; rfl
      have hone : yA.all (·.oneCell') = true := by rw [hyA]; exact cells_one _ _ _ _
      refine wpList_val (v := .tuple #[.agg yA, .int .i64 rn]) rfl rfl ?_
      simp only [Act.put, List.setIfInBounds_toArray, List.set_cons_succ, List.set_cons_zero]
      refine wpList_val (v := .agg yA) rfl (by go_simp) ?_
      simp only [Act.put, List.setIfInBounds_toArray, List.set_cons_succ, List.set_cons_zero]
      refine wpList_val (v := .int .i64 rn) rfl (by go_simp) ?_
      simp only [Act.put, List.setIfInBounds_toArray, List.set_cons_succ, List.set_cons_zero]
      refine wpl_valW (v := .pointer (some ⟨w5.heap.size, 0, none⟩)) (w' := w5.alloc (.cells (zeroArgs.cells (.slice none 0 0)).toArray 30)) rfl (by rw [zeros_eq]; go_simp; try rfl) ?_
      simp only [Act.put, List.setIfInBounds_toArray, List.set_cons_succ, List.set_cons_zero]
      obtain ⟨ht, hr, hms⟩ := store_new w5 yA h36
      refine wpList_storeC (b := w5.heap.size) (cells := yA) rfl rfl rfl rfl rfl ht (by rw [h36]; kernel_rfl) hone ?_
      obtain ⟨yB, hyB⟩ : ∃ b, b = w5.heap.size := ⟨_, rfl⟩
      rw [← hyB] at hr hms ⊢
      have hBlt := World.block_lt_of_cell? _ ⟨yB, 0 + 0, none⟩ (hr 0 (.string (str rx.file)) (by rw [hyA]; rfl))
      simp only at hBlt
      generalize World.setCells _ _ _ _ = w6 at hr hms hBlt ⊢
      refine wpList_val (v := .int .i64 rn) rfl rfl ?_
      simp only [Act.put, List.setIfInBounds_toArray, List.set_cons_succ, List.set_cons_zero]
      have yM := hm.trans hms
      have ySL := hid (hsl.keep hms fun _ _ h => h)
      have yR := hid hr; have y36 := hid h36; have yAE := hid hyA; have yBL := hid hBlt
      clear hm hms hsl hfr hr ht h36 hone hyA hyB hBlt
      have HM6 := hid (HM4.out.trans yM)
      have HA6 := hid (rangeAt_keep HA4.out yM fun h => h)
      have HMS6 := hid (HOWN.out.sl.keep yM fun _ _ h => h)
      clear yM HM4 HA4 HOWN HR1
      have hr2 := RReadArgs_any p so sc cs' w6 (HS.out.keep HM6.out fun _ _ h => h) (by have := HBIG.out; omega)
      rw [← hrx, ← hrn] at hr2
      have HR2 := hid hr2
      clear hr2
      go_upto_region 7 with fail
      refine wp_region_list (wpList_val (v := .int .i64 p) rfl rfl ?_)
      simp only [Act.put, List.setIfInBounds_toArray, List.set_cons_succ, List.set_cons_zero]
      refine wpList_val (v := .slice so cs'.length sc) rfl rfl ?_
      simp only [Act.put, List.setIfInBounds_toArray, List.set_cons_succ, List.set_cons_zero]
      refine wpl_call (f := 11) (args := #[.int .i64 p, .slice so cs'.length sc]) (R := fun v w' => RAP w6 rx rn (.returned v) w') rfl (by go_simp) (HR2.out.mono fun e w' h => by obtain ⟨yo, yc, he, h2⟩ := h; exact ⟨_, he, yo, yc, rfl, h2⟩) ?_
      rintro v w7 ⟨zo, zc, hv, hsl, hfr, hm⟩
      obtain rfl : v = .tuple #[.agg (rx.cells (.slice zo rx.data.length zc)).toArray, .int .i64 rn] := by injection hv
      clear hv
      simp only [Act.put, List.setIfInBounds_toArray, List.set_cons_succ, List.set_cons_zero]
      obtain ⟨zA, hzA⟩ : ∃ A, A = (rx.cells (.slice zo rx.data.length zc)).toArray := ⟨_, rfl⟩
      rw [← hzA]
      have h36 : zA.size = 36 := by rw [hzA]; rfl
      have hone : zA.all (·.oneCell') = true := by rw [hzA]; exact cells_one _ _ _ _
      refine wpList_val (v := .tuple #[.agg zA, .int .i64 rn]) rfl rfl ?_
      simp only [Act.put, List.setIfInBounds_toArray, List.set_cons_succ, List.set_cons_zero]
      refine wpList_val (v := .agg zA) rfl (by go_simp) ?_
      simp only [Act.put, List.setIfInBounds_toArray, List.set_cons_succ, List.set_cons_zero]
      refine wpList_val (v := .int .i64 rn) rfl (by go_simp) ?_
      simp only [Act.put, List.setIfInBounds_toArray, List.set_cons_succ, List.set_cons_zero]
      refine wpl_valW (v := .pointer (some ⟨w7.heap.size, 0, none⟩)) (w' := w7.alloc (.cells (zeroArgs.cells (.slice none 0 0)).toArray 30)) rfl (by rw [zeros_eq]; go_simp; try rfl) ?_
      simp only [Act.put, List.setIfInBounds_toArray, List.set_cons_succ, List.set_cons_zero]
      obtain ⟨ht, hr, hms⟩ := store_new w7 zA h36
      refine wpList_storeC (b := w7.heap.size) (cells := zA) rfl rfl rfl rfl rfl ht (by rw [h36]; kernel_rfl) hone ?_
      obtain ⟨zB, hzB⟩ : ∃ b, b = w7.heap.size := ⟨_, rfl⟩
      rw [← hzB] at hr hms ⊢
      have hBlt := World.block_lt_of_cell? _ ⟨zB, 0 + 0, none⟩ (hr 0 (.string (str rx.file)) (by rw [hzA]; rfl))
      simp only at hBlt
      generalize World.setCells _ _ _ _ = w8 at hr hms hBlt ⊢
      refine wpList_val (v := .int .i64 rn) rfl rfl ?_
      simp only [Act.put, List.setIfInBounds_toArray, List.set_cons_succ, List.set_cons_zero]
      have zM := hm.trans hms
      have zSL := hid (hsl.keep hms fun _ _ h => h)
      have zR := hid hr; have z36 := hid h36; have zAE := hid hzA; have zBL := hid hBlt
      clear hm hms hsl hfr hr ht h36 hone hzA hzB hBlt
      have HM8 := hid (HM6.out.trans zM)
      have HA8 := hid (rangeAt_keep HA6.out zM fun h => h)
      have HMS8 := hid (HMS6.out.keep zM fun _ _ h => h)
      have YR8 := hid (rangeAt_keep yR.out zM fun h => h)
      have YS8 := hid (ySL.out.keep zM fun _ _ h => h)
      have HFS := hid (of_decide_eq_true HF.out.symm)
      clear zM HM6 HA6 HMS6 HR2 yR ySL HF hrx hrn
      obtain ⟨wo, hwo⟩ : ∃ z, z = wargs p a (.slice xo a.data.length xc) := ⟨_, rfl⟩
      have hw1 := fun w' (hm : Mods (fun _ => False) w w') => WriteArgs_any p a xo xc w' (HX.out.keep hm fun _ _ h => h) (fun k hk => Nat.lt_of_lt_of_le (HXB.out k hk) hm.size) HG.out (by have := HFS.out; unfold ArgsV.few; omega)
      have hw2 := fun w' (hm : Mods (fun _ => False) w w') => RWriteArgs_any p a xo xc w' (HX.out.keep hm fun _ _ h => h) (fun k hk => Nat.lt_of_lt_of_le (HXB.out k hk) hm.size) HG.out (by have := HFS.out; unfold ArgsV.len; omega) (.slice xo a.data.length xc)
      rw [← HA.out, ← hwo] at hw1 hw2
      have HW1 := hid hw1; have HW2 := hid hw2
      clear hw1 hw2 hwo
      obtain ⟨ob, on⟩ := wo
      go_upto_region 8 with fail
      refine wp_region_list (wpList_val (v := .int .i64 p) rfl rfl ?_)
      simp only [Act.put, List.setIfInBounds_toArray, List.set_cons_succ, List.set_cons_zero]
      refine wpList_val (v := .agg A) rfl ?_ ?_
      · show (do pure (Next.value (← Instr.loadAt 30 (.pointer (some ⟨w.heap.size, 0, none⟩))))).run Try.prog _ = _
        rw [Sem.run_bind, load_args HA8.out (by rw [HA.out]; rfl)]; rfl
      simp only [Act.put, List.setIfInBounds_toArray, List.set_cons_succ, List.set_cons_zero]
      refine wpl_call (f := 12) (args := #[.int .i64 p, .agg A]) (R := fun v w' => ∃ yo yc, v = .tuple #[.slice yo ob.length yc, .int .i64 on] ∧ OwnB w' yo yc ob ∧ Mods (fun _ => False) w8 w') rfl (by go_simp) ((HW1.out _ HM8.out).mono fun e w' h => by obtain ⟨yo, yc, he, h2, h3, _⟩ := h; exact ⟨_, he, yo, yc, rfl, h2, h3⟩) ?_
      rintro v w9 ⟨so, sc, rfl, hown, sM⟩
      simp only [Act.put, List.setIfInBounds_toArray, List.set_cons_succ, List.set_cons_zero]
      have sS := hid hown.sl
      clear hown
      have HM9 := hid (HM8.out.trans sM)
      have HA9 := hid (rangeAt_keep HA8.out sM fun h => h)
      have HMS9 := hid (HMS8.out.keep sM fun _ _ h => h)
      have YR9 := hid (rangeAt_keep YR8.out sM fun h => h)
      have YS9 := hid (YS8.out.keep sM fun _ _ h => h)
      have ZR9 := hid (rangeAt_keep zR.out sM fun h => h)
      have ZS9 := hid (zSL.out.keep sM fun _ _ h => h)
      clear sM HM8 HA8 HMS8 YR8 YS8 zR zSL HW1
      go_upto_region 9 with fail
      refine wp_region_list (wpList_val (v := .int .i64 p) rfl rfl ?_)
      simp only [Act.put, List.setIfInBounds_toArray, List.set_cons_succ, List.set_cons_zero]
      refine wpList_val (v := .agg A) rfl ?_ ?_
      · show (do pure (Next.value (← Instr.loadAt 30 (.pointer (some ⟨w.heap.size, 0, none⟩))))).run Try.prog _ = _
        rw [Sem.run_bind, load_args HA9.out (by rw [HA.out]; rfl)]; rfl
      simp only [Act.put, List.setIfInBounds_toArray, List.set_cons_succ, List.set_cons_zero]
      refine wpl_call (f := 13) (args := #[.int .i64 p, .agg A]) (R := fun v w' => ∃ yo yc, v = .tuple #[.slice yo ob.length yc, .int .i64 on] ∧ OwnB w' yo yc ob ∧ Mods (fun _ => False) w9 w') rfl (by go_simp) ((HW2.out _ HM9.out).mono fun e w' h => by obtain ⟨yo, yc, he, h2, h3, _⟩ := h; exact ⟨_, he, yo, yc, rfl, h2, h3⟩) ?_
      rintro v wt ⟨to, tc, rfl, hown, tM⟩
      simp only [Act.put, List.setIfInBounds_toArray, List.set_cons_succ, List.set_cons_zero]
      have tS := hid hown.sl
      clear hown
      have HMt := hid (HM9.out.trans tM)
      have HMSt := hid (HMS9.out.keep tM fun _ _ h => h)
      have YRt := hid (rangeAt_keep YR9.out tM fun h => h)
      have YSt := hid (YS9.out.keep tM fun _ _ h => h)
      have ZRt := hid (rangeAt_keep ZR9.out tM fun h => h)
      have ZSt := hid (ZS9.out.keep tM fun _ _ h => h)
      have SSt := hid (sS.out.keep tM fun _ _ h => h)
      clear tM HM9 HA9 HMS9 YR9 YS9 ZR9 ZS9 HW2 sS
      go_upto_region 10 with fail
      refine wp_region_list (wpList_val (v := .agg yA) rfl ?_ ?_)
      · show (do pure (Next.value (← Instr.loadAt 30 (.pointer (some ⟨yB, 0, none⟩))))).run Try.prog _ = _
        rw [Sem.run_bind, load_args YRt.out y36.out]; rfl
      simp only [Act.put, List.setIfInBounds_toArray, List.set_cons_succ, List.set_cons_zero]
      refine wpList_val (v := .agg zA) rfl ?_ ?_
      · show (do pure (Next.value (← Instr.loadAt 30 (.pointer (some ⟨zB, 0, none⟩))))).run Try.prog _ = _
        rw [Sem.run_bind, load_args ZRt.out z36.out]; rfl
      simp only [Act.put, List.setIfInBounds_toArray, List.set_cons_succ, List.set_cons_zero]
      have hsame := refSameArgs_any rx rx yo zo yc zc wt YSt.out ZSt.out
      rw [← yAE.out, ← zAE.out, eqb_self] at hsame
      refine wpl_call (f := 14) (args := #[.agg yA, .agg zA]) (R := fun v w' => v = .bool true ∧ Mods (fun _ => False) wt w') rfl (by go_simp) (hsame.mono fun e w' h => ⟨_, h.1, rfl, h.2⟩) ?_
      rintro v wu ⟨rfl, hm⟩
      simp only [Act.put, List.setIfInBounds_toArray, List.set_cons_succ, List.set_cons_zero]
      have c1 := run_conv (SSt.out.keep hm fun _ _ h => h)
      have c2 := run_conv (tS.out.keep hm fun _ _ h => h)
      have c3 := run_conv (HMSt.out.keep hm fun _ _ h => h)
      have c4 := run_conv (HS.out.keep (HMt.out.trans hm) fun _ _ h => h)
      have HMu := hid (HMt.out.trans hm)
      clear hm hsame
      go_wp2
      go_ret
      exact ⟨rfl, HMu.out⟩

end Go.Proofs.Ytanknjpcgceccaa
