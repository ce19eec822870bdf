/- nfsx.ReadRes. (Printed by wip/tools/gen_gen28.py out of XGen23.) -/
import Derived.Test.YtanknjpcgceccaaGen27
namespace Go.Proofs.Ytanknjpcgceccaa
open Go.RowKit

def zeroAttr : AttrV := ⟨0, 0, 0, 0, 0, 0, 0, 0, ⟨0, 0⟩, ⟨0, 0⟩, ⟨0, 0⟩⟩
def zeroPost : PostV := ⟨false, zeroAttr⟩
def zeroWcc : WccV := ⟨false, 0, ⟨0, 0⟩, ⟨0, 0⟩⟩
def zeroRes : ResV := ⟨0, zeroPost, zeroPost, zeroWcc, zeroWcc, zeroPost, zeroPost, false, [], 0, [], 0, false, [], 0, 0, 0, [], 0, 0, 0, 0⟩
theorem zr_good : zeroRes.good := by simp [zeroRes, zeroPost, zeroWcc, zeroAttr, ResV.good, PostV.good, WccV.good, AttrV.good, TimeV.good]
theorem zr_typed (dv ev : Value) : Typed (resLay dv ev) (resCells zeroRes dv ev) := typed_res zr_good ⟨by simp [zeroRes], by simp [zeroRes], by simp [zeroRes], rfl⟩ dv ev
/-- What ReadRes gives. -/
def rresE (p : Int) (bs : List UInt8) : ResV × Int :=
  if there p then
    let y := rAllE p.toNat (.rd bs 0 0 false, resCells zeroRes (.slice none 0 0) (.slice none 0 0)) [] []
    match y.1.1 with
    | .rd _ pos err bad => if endedB bs pos err bad then ({ resOf y.1.2 y.2.1 with entries := y.2.2 }, 0) else (zeroRes, 15)
    | .wr .. => (zeroRes, 15)
  else (zeroRes, 36)
theorem resLay_upd79 {dv dv' ev : Value} {A : Cells} (h : Typed (resLay dv ev) A) : Typed (resLay dv' ev) (upd A 79 dv') := by
  intro j t hj
  by_cases e : j = 79
  · subst e
    rw [upd_at]
    obtain rfl := Option.some.inj hj
    rfl
  · rw [upd_ne _ _ e]
    have h2 : (resLay dv ev)[j]? = (resLay dv' ev)[j]? := by
      have : resLay dv' ev = (resLay dv ev).set 79 (.is dv') := rfl
      rw [this, List.getElem?_set_ne (by omega)]
    exact h j t (h2.trans hj)
theorem resOf_upd (A : Cells) (v u : Value) (ds : List UInt8) : resOf (upd (upd A 79 v) 83 u) ds = resOf A ds := by simp [resOf, upd]
theorem resCells_upd79 (a : ResV) (dv dv' ev : Value) : upd (resCells a dv ev) 79 dv' = resCells a dv' ev := by
  funext j
  have h : a.cells dv' ev = (a.cells dv ev).set 79 dv' := rfl
  unfold resCells
  by_cases e : j = 79
  · subst e; rw [upd_at]; rfl
  · rw [upd_ne _ _ e, h, List.getElem?_set_ne (by omega)]
/-- Results that are typed, whatever their slices are. -/
def ResV.ok (a : ResV) : Prop := ∀ dv ev, Typed (resLay dv ev) (resCells a dv ev)
theorem ok_resOf {dv ev : Value} {A : Cells} (h : Typed (resLay dv ev) A) (ds : List UInt8) (es : List EntryV) : ({ resOf A ds with entries := es } : ResV).ok := fun dv' ev' => by
  have h1 : Typed (resLay dv' ev') (upd (upd A 79 dv') 83 ev') := resLay_upd83 (resLay_upd79 h)
  intro j t hj
  have hlt : j < 88 := (List.getElem?_eq_some_iff.1 hj).1
  have h2 := cells_resOf h1 ds j hlt
  rw [resOf_upd] at h2
  have h3 := h1 j t hj
  rw [h2] at h3
  exact h3
theorem rcells_one (a : ResV) (xo : Option Addr) (n xc : Nat) (zo : Option Addr) (m zc : Nat) : (a.cells (.slice xo n xc) (.slice zo m zc)).toArray.all (·.oneCell') = true := by
  simp [ResV.cells, PostV.cells, WccV.cells, AttrV.cells, TimeV.cells, Value.oneCell']
theorem rzeros_eq : (zeroRes.cells (.slice none 0 0) (.slice none 0 0)).toArray = Try.zeroCells42 := rfl

/-- What ReadRes leaves. -/
def RRPE (w : World) (a : ResV) (n : Int) (e : Ending) (w' : World) : Prop :=
  ∃ yo yc zo zc, e = .returned (.tuple #[.agg (a.cells (.slice yo a.data.length yc) (.slice zo a.entries.length zc)).toArray, .int .i64 n]) ∧ SlB w' yo yc a.data ∧ (∀ k, rb yo a.data.length k → w.heap.size ≤ k ∧ k < w'.heap.size) ∧
    Sl w' 20 zo a.entries.length zc (flatE a.entries) ∧ (∀ e ∈ a.entries, e.ok) ∧ a.ok ∧ Mods (fun _ => False) w w'
theorem RRPE.zero {w w' : World} {n : Int} (h : Mods (fun _ => False) w w') : RRPE w zeroRes n (.returned (.tuple #[.agg (zeroRes.cells (.slice none 0 0) (.slice none 0 0)).toArray, .int .i64 n])) w' :=
  ⟨none, 0, none, 0, rfl, SlB.nil _, fun k hk => absurd rfl hk.1, Sl.nil _ _, (fun e he => by cases he), zr_typed, h⟩

set_option maxRecDepth 100000 in
set_option maxHeartbeats 4000000 in
theorem ReadRes_noE (p : Int) (ht : there p = false) (so : Option Addr) (n sc : Nat) (w : World) :
    Calls Try.prog 19 #[.int .i64 p, .slice so n sc] w (RRPE w zeroRes 36) := by
  have HIS := hid (fun w => is_any p w)
  rw [ht] at HIS
  clear ht
  go_enter Try.func19, Try.ntmps19
  go_wp2_with fail
  refine (HIS.out _).mono ?_
  rintro e w0 ⟨rfl, rfl⟩
  have hZ : Blk (w.alloc (.cells (zeroRes.cells (.slice none 0 0) (.slice none 0 0)).toArray 42)) w.heap.size (resCells zeroRes (.slice none 0 0) (.slice none 0 0)) := (Blk.new w _ _).congr (by funext j; simp [resCells])
  have hm : Mods (fun _ => False) w (w.alloc (.cells (zeroRes.cells (.slice none 0 0) (.slice none 0 0)).toArray 42)) := Mods.alloc _ _ _
  rw [rzeros_eq] at hZ hm
  have HZ := hid hZ; have HM := hid hm
  clear hZ hm
  go_upto_region 2 with fail
  generalize w.alloc (.cells _ 42) = w1 at HZ HM ⊢
  refine wp_region_list (wpList_val (v := .agg (zeroRes.cells (.slice none 0 0) (.slice none 0 0)).toArray) rfl (by rw [rzeros_eq]; go_simp) ?_)
  have ht : w1.there w.heap.size 0 88 := fun j hj => ⟨by rw [Nat.zero_add, HZ.out.cell j]; exact (Option.isSome_iff_exists.2 ⟨_, List.getElem?_eq_getElem (show j < (zeroRes.cells (.slice none 0 0) (.slice none 0 0)).length from hj)⟩), by rw [Nat.zero_add]; exact HZ.out.free j⟩
  refine wpList_storeC (b := w.heap.size) (cells := (zeroRes.cells (.slice none 0 0) (.slice none 0 0)).toArray) rfl rfl rfl rfl rfl ht (by kernel_rfl) (rcells_one _ _ _ _ _ _ _) ?_
  have hr := World.rangeAt_setCells_same w1 w.heap.size 0 (zeroRes.cells (.slice none 0 0) (.slice none 0 0)) ht
  have hms : Mods (fun k => k = w.heap.size) w1 (w1.setCells w.heap.size 0 (zeroRes.cells (.slice none 0 0) (.slice none 0 0))) := Mods.setCells _ rfl
  have HM2 := hid (HM.out.step hms fun k hk e => absurd hk (by omega))
  rw [List.toList_toArray]
  generalize w1.setCells w.heap.size 0 (zeroRes.cells (.slice none 0 0) (.slice none 0 0)) = w2 at hr HM2 ⊢
  have HR := hid hr
  clear hr hms ht HZ HM HIS
  go_wp2_with fail
  refine bodyPost_ret (results_cell2 rfl rfl (run_loadVar_mid w2 w.heap.size 0 _ _ _ HR.out Try.underlying42 rfl (by kernel_rfl)) rfl) rfl ?_
  exact RRPE.zero HM2.out


set_option maxRecDepth 100000 in
set_option maxHeartbeats 1500000 in
theorem ReadRes_yesE (k : Nat) (hk : thereN k) (ht : there (k : Int) = true) (so : Option Addr) (sc : Nat) (bs : List UInt8) (w : World) (hs : SlB w so sc bs) (hlen : bs.length ≤ 1000000000) :
    Calls Try.prog 19 #[.int .i64 (k : Int), .slice so bs.length sc] w (RRPE w (rresE (k : Int) bs).1 (rresE (k : Int) bs).2) := by
  have HIS := hid (fun w => is_any (k : Int) w)
  rw [ht] at HIS
  have hra : rresE (k : Int) bs = (let y := rAllE k (.rd bs 0 0 false, resCells zeroRes (.slice none 0 0) (.slice none 0 0)) [] []; match y.1.1 with | .rd _ pos err bad => if endedB bs pos err bad then ({ resOf y.1.2 y.2.1 with entries := y.2.2 }, 0) else (zeroRes, 15) | .wr .. => (zeroRes, 15)) := by
    simp only [rresE, ht, if_true, Int.toNat_natCast]
  have hlike := like_rAllE k (.rd bs 0 0 false, resCells zeroRes (.slice none 0 0) (.slice none 0 0)) [] []
  rw [hra]
  generalize hq : rAllE k (.rd bs 0 0 false, resCells zeroRes (.slice none 0 0) (.slice none 0 0)) [] [] = q at hlike
  obtain ⟨⟨s, A'⟩, ds', es'⟩ := q
  cases s with
  | wr b o => exact absurd hlike.1 (by simp [St.isWr])
  | rd inp pos err bad =>
  have hinp : inp = bs := hlike.2
  subst hinp
  have HQ := hid hq; have HK := hid hk; have HS := hid hs; have HLN := hid hlen
  clear hq hlike hra hk hs hlen ht
  dsimp only
  obtain ⟨res, hres⟩ : ∃ z, z = (if endedB inp pos err bad then (({ resOf A' ds' with entries := es' } : ResV), (0 : Int)) else (zeroRes, 15)) := ⟨_, rfl⟩
  rw [← hres]
  have HRES := hid hres
  clear hres
  go_enter Try.func19, Try.ntmps19
  go_wp2_with fail
  refine (HIS.out _).mono ?_
  rintro e w0 ⟨rfl, rfl⟩
  have hZ : Blk (w.alloc (.cells (zeroRes.cells (.slice none 0 0) (.slice none 0 0)).toArray 42)) w.heap.size (resCells zeroRes (.slice none 0 0) (.slice none 0 0)) := (Blk.new w _ _).congr (by funext j; simp [resCells])
  have hm : Mods (fun _ => False) w (w.alloc (.cells (zeroRes.cells (.slice none 0 0) (.slice none 0 0)).toArray 42)) := Mods.alloc _ _ _
  have hsz : (w.alloc (.cells (zeroRes.cells (.slice none 0 0) (.slice none 0 0)).toArray 42)).heap.size = w.heap.size + 1 := by simp
  rw [rzeros_eq] at hZ hm hsz
  have HZ := hid hZ; have HM := hid hm; have HSZ := hid hsz
  clear hZ hm hsz HIS
  go_upto_region 3 with fail
  generalize w.alloc (.cells _ 42) = w1 at HZ HM HSZ ⊢
  have hA : Blk (w1.alloc (.cells (zeroRes.cells (.slice none 0 0) (.slice none 0 0)).toArray 42)) w1.heap.size (resCells zeroRes (.slice none 0 0) (.slice none 0 0)) := (Blk.new w1 _ _).congr (by funext j; simp [resCells])
  have hm : Mods (fun _ => False) w1 (w1.alloc (.cells (zeroRes.cells (.slice none 0 0) (.slice none 0 0)).toArray 42)) := Mods.alloc _ _ _
  have hsz : (w1.alloc (.cells (zeroRes.cells (.slice none 0 0) (.slice none 0 0)).toArray 42)).heap.size = w1.heap.size + 1 := by simp
  rw [rzeros_eq] at hA hm hsz
  have HA := hid hA; have HM1 := hid hm; have HSZ1 := hid hsz
  clear hA hm hsz
  go_upto_region 4 with fail
  generalize w1.alloc (.cells _ 42) = w2 at HA HM1 HSZ1 ⊢
  have hw1s := HSZ.out
  have hw2s := HSZ1.out
  have HM02 := hid (HM.out.trans HM1.out)
  have HNR := hid (NewReader_any so sc inp w2 (HS.out.keep HM02.out fun _ _ h => h) HLN.out)
  go_wp2_with fail
  refine HNR.out.mono ?_
  rintro e w3 ⟨r, ro, rc, rfl, hr, hr2, hro, hm3⟩
  have hrlt := hr.lt
  have hm34 : Mods (fun _ => False) w3 (w3.alloc (.cells #[.pointer (some ⟨r, 0, none⟩), .pointer none, .bool false] 69)) := Mods.alloc _ _ _
  have hcr : CR (w3.alloc (.cells #[.pointer (some ⟨r, 0, none⟩), .pointer none, .bool false] 69)) w3.heap.size r ro rc inp 0 0 false := ⟨heap_alloc_new w3 _, hr.new hm34, by omega, fun j hj => by have := (hro j hj.2).2; omega⟩
  have hs3 := hm3.size
  have hF : ∀ j, FR w3.heap.size r ro inp.length j → w2.heap.size ≤ j := fun j hj => by
    rcases hj with rfl | rfl | hj
    · omega
    · exact hr2
    · exact (hro j hj.2).1
  have hm24 := hm3.trans hm34
  have hat : At (w3.alloc (.cells #[.pointer (some ⟨r, 0, none⟩), .pointer none, .bool false] 69)) w3.heap.size (FR w3.heap.size r ro inp.length) w1.heap.size (.rd inp 0 0 false, resCells zeroRes (.slice none 0 0) (.slice none 0 0)) :=
    ⟨⟨r, ro, rc, hcr, rfl⟩, HA.out.keep hm24 (fun h => h), fun hf => by have := hF _ hf; omega⟩
  have hargs := res_anyE k HK.out w3.heap.size (FR w3.heap.size r ro inp.length) w1.heap.size _ none 0 [] none 0 [] _ ⟨hat, SlB.nil _, fun j hj => absurd rfl hj.1, OwnE.nil _, fun j hj => hj.elim, (fun e he => by cases he)⟩ ⟨zr_typed _ _, Nat.zero_le _⟩ (by decide) (fun _ => rfl) (by decide) (by decide)
  simp only [List.length_nil] at hargs
  rw [HQ.out, hw1s] at hargs
  have HARGS := hid hargs
  have hm04 := HM02.out.trans hm24
  have HM04 := hid hm04
  have hZ4 := hid (HZ.out.keep (HM1.out.trans hm24) fun h => h)
  have HF := hid hF
  clear hcr hat hargs hm04 hm24 hm34 hm3 hr hro hF HNR HA HZ HM1 HM
  go_wp2_with fail
  refine HARGS.out.mono ?_
  rintro e w5 ⟨rfl, F5, yo, yc, zo, zc, q1, q2, q2f, q3, q4, q5, q6e, q7e, q8e, q6, _⟩
  obtain ⟨r5, ro5, rc5, hcr5, _⟩ := q1.out
  have hr0 : ¬ (FR w3.heap.size r ro inp.length w.heap.size ∨ w.heap.size = w.heap.size + 1 ∨ blk none w.heap.size) := fun h => by
    rcases h with h | h | h
    · have := HF.out _ h; omega
    · omega
    · exact h
  have HZ5 := hid (hZ4.out.keep q2.out hr0)
  have HM05 := hid (HM04.out.step q2.out fun j hj hf => by
    rcases hf with hf | hf | hf
    · have := HF.out _ hf; omega
    · omega
    · exact hf.elim)
  have HOE := hid q6e.out; have HEF := hid q7e.out; have HEO := hid q8e.out
  have HE := hid (ended_any w3.heap.size r5 ro5 rc5 inp pos err bad w5 hcr5)
  have HX := hid q3.out
  have HT := hid q6.out
  have HSL := hid q4.out
  have HFR := hid (fun j hj => (q5.out j hj))
  clear HARGS q1 q2 q2f q3 q4 q5 q6 q6e q7e q8e hcr5 hZ4 HM04 hr0
  go_wp2_with fail
  refine HE.out.mono ?_
  rintro e w6 ⟨rfl, hq6⟩
  have hqm : Mods (fun _ => False) w5 w6 := Quiet.mods hq6 _
  have HZ6 := hid (HZ5.out.keep hqm fun h => h)
  have HX6 := hid (HX.out.keep hqm fun h => h)
  have HSL6 := hid (HSL.out.keep hqm fun _ _ h => h)
  have HOE6 := hid (HOE.out.keep hqm fun _ _ h => h)
  have HM06 := hid (HM05.out.trans hqm)
  have HSZ6 := hid hqm.size
  clear hq6 hqm HE HZ5 HX HSL HOE
  have ht : w6.there w.heap.size 0 88 := fun j hj => ⟨by rw [Nat.zero_add, HZ6.out.cell j]; exact (Option.isSome_iff_exists.2 ⟨_, List.getElem?_eq_getElem (show j < (zeroRes.cells (.slice none 0 0) (.slice none 0 0)).length from hj)⟩), by rw [Nat.zero_add]; exact HZ6.out.free j⟩
  have HTH := hid ht
  clear ht
  cases hb : endedB inp pos err bad
  · go_upto_region 7 with fail
    refine wp_region_list (wpList_val (v := .agg (zeroRes.cells (.slice none 0 0) (.slice none 0 0)).toArray) rfl (by rw [rzeros_eq]; go_simp) ?_)
    refine wpList_storeC (b := w.heap.size) (cells := (zeroRes.cells (.slice none 0 0) (.slice none 0 0)).toArray) rfl rfl rfl rfl rfl HTH.out (by kernel_rfl) (rcells_one _ _ _ _ _ _ _) ?_
    have hr := World.rangeAt_setCells_same w6 w.heap.size 0 (zeroRes.cells (.slice none 0 0) (.slice none 0 0)) HTH.out
    have hms : Mods (fun k => k = w.heap.size) w6 (w6.setCells w.heap.size 0 (zeroRes.cells (.slice none 0 0) (.slice none 0 0))) := Mods.setCells _ rfl
    have HM2 := hid (HM06.out.step hms fun k hk e => absurd hk (by omega))
    rw [List.toList_toArray]
    generalize w6.setCells w.heap.size 0 (zeroRes.cells (.slice none 0 0) (.slice none 0 0)) = w7 at hr HM2 ⊢
    have HR := hid hr
    clear hr hms
    go_wp2_with fail
    refine bodyPost_ret (results_cell2 rfl rfl (run_loadVar_mid w7 w.heap.size 0 _ _ _ HR.out Try.underlying42 rfl (by kernel_rfl)) rfl) rfl ?_
    have hres : res = (zeroRes, 15) := by rw [HRES.out, hb]; rfl
    rw [hres]
    exact RRPE.zero HM2.out
  · obtain ⟨dv, ev, hty⟩ := HT.out
    have HTY := hid (ok_resOf hty ds' es')
    have hrange : w6.rangeAt (w.heap.size + 1) 0 ((resOf A' ds').cells (.slice yo ds'.length yc) (.slice zo es'.length zc)) := fun j v hj => by
      have hlt : j < 88 := (List.getElem?_eq_some_iff.1 hj).1
      have h1 := cells_resOf (resLay_upd83 (ev' := .slice zo es'.length zc) (resLay_upd79 (dv' := .slice yo ds'.length yc) hty)) ds' j hlt
      rw [resOf_upd] at h1
      rw [Nat.zero_add, HX6.out.cell j, h1]
      exact hj
    have hload := run_loadAt_mid (P := Try.prog) w6 (w.heap.size + 1) 0 42 _ _ hrange Try.underlying42 rfl (by kernel_rfl)
    have HLOAD := hid hload
    clear hload hrange
    go_upto_region 8 with fail
    refine wp_region_list (wpList_val (v := .agg ((resOf A' ds').cells (.slice yo ds'.length yc) (.slice zo es'.length zc)).toArray) rfl ?_ ?_)
    · show (do pure (Next.value (← Instr.loadAt 42 (.pointer (some ⟨w.heap.size + 1, 0, none⟩))))).run Try.prog w6 = _
      rw [Sem.run_bind, HLOAD.out]
      rfl
    refine wpList_storeC (b := w.heap.size) (cells := ((resOf A' ds').cells (.slice yo ds'.length yc) (.slice zo es'.length zc)).toArray) rfl rfl rfl rfl rfl HTH.out (by kernel_rfl) (rcells_one _ _ _ _ _ _ _) ?_
    have hr := World.rangeAt_setCells_same w6 w.heap.size 0 ((resOf A' ds').cells (.slice yo ds'.length yc) (.slice zo es'.length zc)) HTH.out
    have hms : Mods (fun k => k = w.heap.size) w6 (w6.setCells w.heap.size 0 ((resOf A' ds').cells (.slice yo ds'.length yc) (.slice zo es'.length zc))) := Mods.setCells _ rfl
    have HM2 := hid (HM06.out.step hms fun k hk e => absurd hk (by omega))
    have hnz : ∀ k, rb yo ds'.length k → w.heap.size < k := fun k hk => by
      obtain ⟨_, _, h4⟩ := HFR.out k hk
      rcases h4 with h4 | h4
      · exact absurd rfl h4.1
      · simp at h4; omega
    have HSL2 := hid (HSL6.out.keep hms fun k hk e => by have := hnz k hk; omega)
    have HOE2 := hid (HOE6.out.keep hms fun k hk e => by
      rcases (HEF.out k hk).2 with h4 | h4
      · exact h4
      · simp at h4; omega)
    have hmsz := hms.size
    rw [List.toList_toArray]
    generalize w6.setCells w.heap.size 0 ((resOf A' ds').cells (.slice yo ds'.length yc) (.slice zo es'.length zc)) = w7 at hr HM2 HSL2 HOE2 hmsz ⊢
    have HR := hid hr
    have HNZ := hid hnz
    have HMSZ := hid hmsz
    clear hr hms hnz hty hmsz
    go_wp2_with fail
    refine bodyPost_ret (results_cell2 rfl rfl (run_loadVar_mid w7 w.heap.size 0 _ _ _ HR.out Try.underlying42 rfl (by kernel_rfl)) rfl) rfl ?_
    have hres : res = ({ resOf A' ds' with entries := es' }, 0) := by rw [HRES.out, hb]; rfl
    rw [hres]
    exact ⟨yo, yc, zo, zc, rfl, HSL2.out, fun k hk => ⟨Nat.le_of_lt (HNZ.out k hk), Nat.lt_of_lt_of_le (HFR.out k hk).1 (Nat.le_trans HSZ6.out HMSZ.out)⟩, HOE2.out.sl, HEO.out, HTY.out, HM2.out⟩

theorem ReadRes_anyE (p : Int) (so : Option Addr) (sc : Nat) (bs : List UInt8) (w : World) (hs : SlB w so sc bs) (hlen : bs.length ≤ 1000000000) :
    Calls Try.prog 19 #[.int .i64 p, .slice so bs.length sc] w (RRPE w (rresE p bs).1 (rresE p bs).2) := by
  by_cases ht : there p = true
  · obtain ⟨k, rfl, hk⟩ := there_nat ht
    exact ReadRes_yesE k hk ht so sc bs w hs hlen
  · have ht' : there p = false := by simpa using ht
    have hr : rresE p bs = (zeroRes, 36) := by simp [rresE, ht']
    rw [hr]
    exact ReadRes_noE p ht' so bs.length sc w

end Go.Proofs.Ytanknjpcgceccaa
