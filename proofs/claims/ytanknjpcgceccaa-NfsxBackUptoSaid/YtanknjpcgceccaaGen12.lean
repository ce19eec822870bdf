/- nfsx.ReadArgs. -/
import Derived.Test.YtanknjpcgceccaaGen11
import Derived.Test.YtanknjpcgceccaaNewR
import Derived.Test.YtanknjpcgceccaaCopy2
import Derived.Deep.Cut
namespace Go.Proofs.Ytanknjpcgceccaa
open Go.RowKit

def zeroSat : SattrV := ⟨false, false, false, false, 0, 0, 0, 0, 0, 0, ⟨0, 0⟩, ⟨0, 0⟩⟩
def zeroArgs : ArgsV := ⟨[], [], [], [], [], zeroSat, false, ⟨0, 0⟩, 0, 0, 0, 0, 0, 0, [], 0, 0, 0, 0, 0, 0, 0⟩
theorem zero_good : zeroArgs.good := by
  simp [zeroArgs, zeroSat, ArgsV.good, SattrV.good, TimeV.good]
theorem zero_few : zeroArgs.few := by simp [zeroArgs, ArgsV.few]

/-- What ReadArgs gives. -/
def rargs (p : Int) (bs : List UInt8) : ArgsV × Int :=
  if there p then
    let y := pAll p.toNat (.rd bs 0 0 false, cellsOf zeroArgs (.slice none 0 0)) []
    match y.1.1 with
    | .rd _ pos err bad => if endedB bs pos err bad then (argsOf y.1.2 y.2, 0) else (zeroArgs, 33)
    | .wr .. => (zeroArgs, 33)
  else (zeroArgs, 36)

theorem results_cell2 {fn : Func} {a t s : Nat} (h : fn.results = #[.cell a t, .tmp s]) {P : Program} {w : World} {tmps : Array Value} {p : Addr} {v u : Value} (ha : tmps.getD a undef = .pointer (some p)) (hl : (loadVar t p).run P w = .ok v w) (hs : tmps.getD s undef = u) :
    (results fn tmps).run P w = .ok (.tuple #[v, u]) w := by
  subst hs
  have ha' : tmps[a]?.getD undef = .pointer (some p) := by rw [← Array.getD_eq_getD_getElem?]; exact ha
  simp [results, h, ha', asAddr, hl]

theorem wpList_storeC {P : Program} {ops : Array Oper} {Q : Exit → Act → World → Prop} {rest : List Oper} {a : Act} {w : World} {o : Oper} {ty : TypeId} {x y : Operand} {b : Nat} {cells : Array Value} (hw : Region.wanted o (yielded ops a.tmps) = true) (ho : o.op = .store ty x y) (hd : o.dst = none)
    (hx : a.eval x = .pointer (some ⟨b, 0, none⟩)) (hy : a.eval y = .agg cells) (ht : w.there b 0 cells.size) (hi : (P.info? ty).map (·.size) = some cells.size) (h1 : cells.all (·.oneCell') = true)
    (h : wpList P ops Q rest a (w.setCells b 0 cells.toList)) : wpList P ops Q (o :: rest) a w := by
  unfold wpList
  rw [if_pos hw]
  refine .inl ?_
  unfold Oper.wp
  have hrun : (execOp a.eval o).run P w = .ok .skip (w.setCells b 0 cells.toList) := by
    simp only [execOp, ho, hx, hy, Sem.run_bind, run_storeAt_mid w b 0 ty cells ht hi h1]
    rfl
  rw [hrun, Oper.upon_skip, hd]
  exact h

theorem argLay_upd {dv dv' : Value} {A : Cells} (h : Typed (argLay dv) A) : Typed (argLay dv') (upd A 28 dv') := by
  intro j t hj
  by_cases e : j = 28
  · subst e
    rw [upd_at]
    obtain rfl := Option.some.inj hj
    rfl
  · rw [upd_ne _ _ e]
    have h2 : (argLay dv)[j]? = (argLay dv')[j]? := by
      have : argLay dv' = (argLay dv).set 28 (.is dv') := rfl
      rw [this, List.getElem?_set_ne (by omega)]
    exact h j t (h2.trans hj)
theorem argsOf_upd (A : Cells) (v : Value) (ds : List UInt8) : argsOf (upd A 28 v) ds = argsOf A ds := by simp [argsOf, upd]
theorem cells_size (a : ArgsV) (dv : Value) : (a.cells dv).toArray.size = 36 := rfl
theorem cells_one (a : ArgsV) (xo : Option Addr) (n xc : Nat) : (a.cells (.slice xo n xc)).toArray.all (·.oneCell') = true := by
  simp [ArgsV.cells, SattrV.cells, TimeV.cells, Value.oneCell']
theorem zeros_eq : (zeroArgs.cells (.slice none 0 0)).toArray = #[Value.string ⟨#[]⟩, Value.string ⟨#[]⟩, Value.string ⟨#[]⟩, Value.string ⟨#[]⟩, Value.string ⟨#[]⟩, Value.bool false, Value.bool false,
  Value.bool false, Value.bool false, Value.int .i64 0, Value.int .u32 0, Value.int .u32 0, Value.int .u64 0, Value.int .i64 0, Value.int .i64 0, Value.int .u32 0,
  Value.int .u32 0, Value.int .u32 0, Value.int .u32 0, Value.bool false, Value.int .u32 0, Value.int .u32 0, Value.int .u32 0, Value.int .u64 0,
  Value.int .u32 0, Value.int .i64 0, Value.int .i64 0, Value.int .i64 0, Value.slice none 0 0, Value.int .u64 0, Value.int .u64 0, Value.int .u64 0,
  Value.int .u32 0, Value.int .u32 0, Value.int .u32 0, Value.int .u32 0] := rfl

/-- What ReadArgs leaves. -/
def RAP (w : World) (a : ArgsV) (n : Int) (e : Ending) (w' : World) : Prop :=
  ∃ yo yc, e = .returned (.tuple #[.agg (a.cells (.slice yo a.data.length yc)).toArray, .int .i64 n]) ∧ SlB w' yo yc a.data ∧ (∀ k, rb yo a.data.length k → w.heap.size ≤ k ∧ k < w'.heap.size) ∧ Mods (fun _ => False) w w'

set_option maxRecDepth 100000 in
set_option maxHeartbeats 4000000 in
theorem ReadArgs_no (p : Int) (ht : there p = false) (so : Option Addr) (n sc : Nat) (w : World) :
    Calls Try.prog 10 #[.int .i64 p, .slice so n sc] w (RAP w zeroArgs 36) := by
  have HIS := hid (fun w => is_any p w)
  rw [ht] at HIS
  clear ht
  go_enter Try.func10, Try.ntmps10
  go_wp2_with fail
  refine (HIS.out _).mono ?_
  rintro e w0 ⟨rfl, rfl⟩
  have hZ : Blk (w.alloc (.cells (zeroArgs.cells (.slice none 0 0)).toArray 30)) w.heap.size (cellsOf zeroArgs (.slice none 0 0)) := (Blk.new w _ _).congr (by funext j; simp [cellsOf])
  have hm : Mods (fun _ => False) w (w.alloc (.cells (zeroArgs.cells (.slice none 0 0)).toArray 30)) := Mods.alloc _ _ _
  rw [zeros_eq] at hZ hm
  have HZ := hid hZ; have HM := hid hm
  clear hZ hm
  go_upto_region 2 with fail
  generalize w.alloc (.cells _ 30) = w1 at HZ HM ⊢
  refine wp_region_list (wpList_val (v := .agg (zeroArgs.cells (.slice none 0 0)).toArray) rfl (by rw [zeros_eq]; go_simp) ?_)
  have ht : w1.there w.heap.size 0 36 := fun j hj => ⟨by rw [Nat.zero_add, HZ.out.cell j]; exact (Option.isSome_iff_exists.2 ⟨_, List.getElem?_eq_getElem (show j < (zeroArgs.cells (.slice none 0 0)).length from hj)⟩), by rw [Nat.zero_add]; exact HZ.out.free j⟩
  refine wpList_storeC (b := w.heap.size) (cells := (zeroArgs.cells (.slice none 0 0)).toArray) rfl rfl rfl rfl rfl ht (by kernel_rfl) (cells_one _ _ _ _) ?_
  have hr := World.rangeAt_setCells_same w1 w.heap.size 0 (zeroArgs.cells (.slice none 0 0)) ht
  have hms : Mods (fun k => k = w.heap.size) w1 (w1.setCells w.heap.size 0 (zeroArgs.cells (.slice none 0 0))) := Mods.setCells _ rfl
  have HM2 := hid (HM.out.step hms fun k hk e => absurd hk (by omega))
  rw [List.toList_toArray]
  generalize w1.setCells w.heap.size 0 (zeroArgs.cells (.slice none 0 0)) = w2 at hr HM2 ⊢
  have HR := hid hr
  clear hr hms ht HZ HM HIS
  go_wp2_with fail
  refine bodyPost_ret (results_cell2 rfl rfl (run_loadVar_mid w2 w.heap.size 0 _ _ _ HR.out Try.underlying30 rfl (by kernel_rfl)) rfl) rfl ?_
  exact ⟨none, 0, rfl, SlB.nil _, fun k hk => absurd rfl hk.1, HM2.out⟩


set_option maxRecDepth 100000 in
set_option maxHeartbeats 1500000 in
theorem ReadArgs_yes (k : Nat) (hk : thereN k) (ht : there (k : Int) = true) (so : Option Addr) (sc : Nat) (bs : List UInt8) (w : World) (hs : SlB w so sc bs) (hlen : bs.length ≤ 1000000000) :
    Calls Try.prog 10 #[.int .i64 (k : Int), .slice so bs.length sc] w (RAP w (rargs (k : Int) bs).1 (rargs (k : Int) bs).2) := by
  have HIS := hid (fun w => is_any (k : Int) w)
  rw [ht] at HIS
  have hra : rargs (k : Int) bs = (let y := pAll k (.rd bs 0 0 false, cellsOf zeroArgs (.slice none 0 0)) []; match y.1.1 with | .rd _ pos err bad => if endedB bs pos err bad then (argsOf y.1.2 y.2, 0) else (zeroArgs, 33) | .wr .. => (zeroArgs, 33)) := by
    simp only [rargs, ht, if_true, Int.toNat_natCast]
  have hlike := like_pAll k (.rd bs 0 0 false, cellsOf zeroArgs (.slice none 0 0)) []
  rw [hra]
  generalize hq : pAll k (.rd bs 0 0 false, cellsOf zeroArgs (.slice none 0 0)) [] = q at hlike
  obtain ⟨⟨s, A'⟩, ds'⟩ := q
  cases s with
  | wr b o => exact absurd hlike.1 (by simp [St.isWr])
  | rd inp pos err bad =>
  have hinp : inp = bs := hlike.2
  subst hinp
  have HQ := hid hq; have HK := hid hk; have HS := hid hs; have HLN := hid hlen
  clear hq hlike hra hk hs hlen ht
  dsimp only
  obtain ⟨res, hres⟩ : ∃ z, z = (if endedB inp pos err bad then (argsOf A' ds', (0 : Int)) else (zeroArgs, 33)) := ⟨_, rfl⟩
  rw [← hres]
  have HRES := hid hres
  clear hres
  go_enter Try.func10, Try.ntmps10
  go_wp2_with fail
  refine (HIS.out _).mono ?_
  rintro e w0 ⟨rfl, rfl⟩
  have hZ : Blk (w.alloc (.cells (zeroArgs.cells (.slice none 0 0)).toArray 30)) w.heap.size (cellsOf zeroArgs (.slice none 0 0)) := (Blk.new w _ _).congr (by funext j; simp [cellsOf])
  have hm : Mods (fun _ => False) w (w.alloc (.cells (zeroArgs.cells (.slice none 0 0)).toArray 30)) := Mods.alloc _ _ _
  have hsz : (w.alloc (.cells (zeroArgs.cells (.slice none 0 0)).toArray 30)).heap.size = w.heap.size + 1 := by simp
  rw [zeros_eq] at hZ hm hsz
  have HZ := hid hZ; have HM := hid hm; have HSZ := hid hsz
  clear hZ hm hsz HIS
  go_upto_region 3 with fail
  generalize w.alloc (.cells _ 30) = w1 at HZ HM HSZ ⊢
  have hA : Blk (w1.alloc (.cells (zeroArgs.cells (.slice none 0 0)).toArray 30)) w1.heap.size (cellsOf zeroArgs (.slice none 0 0)) := (Blk.new w1 _ _).congr (by funext j; simp [cellsOf])
  have hm : Mods (fun _ => False) w1 (w1.alloc (.cells (zeroArgs.cells (.slice none 0 0)).toArray 30)) := Mods.alloc _ _ _
  have hsz : (w1.alloc (.cells (zeroArgs.cells (.slice none 0 0)).toArray 30)).heap.size = w1.heap.size + 1 := by simp
  rw [zeros_eq] at hA hm hsz
  have HA := hid hA; have HM1 := hid hm; have HSZ1 := hid hsz
  clear hA hm hsz
  go_upto_region 4 with fail
  generalize w1.alloc (.cells _ 30) = w2 at HA HM1 HSZ1 ⊢
  have hw1s := HSZ.out
  have hw2s := HSZ1.out
  have HM02 := hid (HM.out.trans HM1.out)
  have HNR := hid (NewReader_any so sc inp w2 (HS.out.keep HM02.out fun _ _ h => h) HLN.out)
  go_wp2_with fail
  refine HNR.out.mono ?_
  rintro e w3 ⟨r, ro, rc, rfl, hr, hr2, hro, hm3⟩
  have hrlt := hr.lt
  have hm34 : Mods (fun _ => False) w3 (w3.alloc (.cells #[.pointer (some ⟨r, 0, none⟩), .pointer none, .bool false] 69)) := Mods.alloc _ _ _
  have hcr : CR (w3.alloc (.cells #[.pointer (some ⟨r, 0, none⟩), .pointer none, .bool false] 69)) w3.heap.size r ro rc inp 0 0 false := ⟨heap_alloc_new w3 _, hr.new hm34, by omega, fun j hj => by have := (hro j hj.2).2; omega⟩
  have hs3 := hm3.size
  have hF : ∀ j, FR w3.heap.size r ro inp.length j → w2.heap.size ≤ j := fun j hj => by
    rcases hj with rfl | rfl | hj
    · omega
    · exact hr2
    · exact (hro j hj.2).1
  have hm24 := hm3.trans hm34
  have hat : At (w3.alloc (.cells #[.pointer (some ⟨r, 0, none⟩), .pointer none, .bool false] 69)) w3.heap.size (FR w3.heap.size r ro inp.length) w1.heap.size (.rd inp 0 0 false, cellsOf zeroArgs (.slice none 0 0)) :=
    ⟨⟨r, ro, rc, hcr, rfl⟩, HA.out.keep hm24 (fun h => h), fun hf => by have := hF _ hf; omega⟩
  have hargs := args_any k HK.out w3.heap.size (FR w3.heap.size r ro inp.length) w1.heap.size _ none 0 [] _ hat ⟨typed_cells zero_good zero_few _, Nat.zero_le _⟩ (SlB.nil _) (fun j hj => absurd rfl hj.1) (by decide)
  simp only [List.length_nil] at hargs
  rw [HQ.out, hw1s] at hargs
  have HARGS := hid hargs
  have hm04 := HM02.out.trans hm24
  have HM04 := hid hm04
  have hZ4 := hid (HZ.out.keep (HM1.out.trans hm24) fun h => h)
  have HF := hid hF
  clear hcr hat hargs hm04 hm24 hm34 hm3 hr hro hF HNR HA HZ HM1 HM
  go_wp2_with fail
  refine HARGS.out.mono ?_
  rintro e w5 ⟨rfl, F5, yo, yc, q1, q2, q3, q4, q5, q6, q7, _⟩
  obtain ⟨r5, ro5, rc5, hcr5, _⟩ := q1.out
  have hr0 : ¬ (FR w3.heap.size r ro inp.length w.heap.size ∨ w.heap.size = w.heap.size + 1) := fun h => by
    rcases h with h | h
    · have := HF.out _ h; omega
    · omega
  have HZ5 := hid (hZ4.out.keep q2.out.mods hr0)
  have HM05 := hid (HM04.out.step q2.out.mods fun j hj hf => by
    rcases hf with hf | hf
    · have := HF.out _ hf; omega
    · omega)
  have HE := hid (ended_any w3.heap.size r5 ro5 rc5 inp pos err bad w5 hcr5)
  have HX := hid q3.out
  have HT := hid q6.out
  have HSL := hid q4.out
  have HFR := hid (fun j hj => (q5.out j hj))
  clear HARGS q1 q2 q3 q4 q5 q6 q7 hcr5 hZ4 HM04 hr0
  go_wp2_with fail
  refine HE.out.mono ?_
  rintro e w6 ⟨rfl, hq6⟩
  have hqm : Mods (fun _ => False) w5 w6 := Quiet.mods hq6 _
  have HZ6 := hid (HZ5.out.keep hqm fun h => h)
  have HX6 := hid (HX.out.keep hqm fun h => h)
  have HSL6 := hid (HSL.out.keep hqm fun _ _ h => h)
  have HM06 := hid (HM05.out.trans hqm)
  have HSZ6 := hid hqm.size
  clear hq6 hqm HE HZ5 HX HSL
  have ht : w6.there w.heap.size 0 36 := fun j hj => ⟨by rw [Nat.zero_add, HZ6.out.cell j]; exact (Option.isSome_iff_exists.2 ⟨_, List.getElem?_eq_getElem (show j < (zeroArgs.cells (.slice none 0 0)).length from hj)⟩), by rw [Nat.zero_add]; exact HZ6.out.free j⟩
  have HTH := hid ht
  clear ht
  cases hb : endedB inp pos err bad
  · go_upto_region 7 with fail
    refine wp_region_list (wpList_val (v := .agg (zeroArgs.cells (.slice none 0 0)).toArray) rfl (by rw [zeros_eq]; go_simp) ?_)
    refine wpList_storeC (b := w.heap.size) (cells := (zeroArgs.cells (.slice none 0 0)).toArray) rfl rfl rfl rfl rfl HTH.out (by kernel_rfl) (cells_one _ _ _ _) ?_
    have hr := World.rangeAt_setCells_same w6 w.heap.size 0 (zeroArgs.cells (.slice none 0 0)) HTH.out
    have hms : Mods (fun k => k = w.heap.size) w6 (w6.setCells w.heap.size 0 (zeroArgs.cells (.slice none 0 0))) := Mods.setCells _ rfl
    have HM2 := hid (HM06.out.step hms fun k hk e => absurd hk (by omega))
    rw [List.toList_toArray]
    generalize w6.setCells w.heap.size 0 (zeroArgs.cells (.slice none 0 0)) = w7 at hr HM2 ⊢
    have HR := hid hr
    clear hr hms
    go_wp2_with fail
    refine bodyPost_ret (results_cell2 rfl rfl (run_loadVar_mid w7 w.heap.size 0 _ _ _ HR.out Try.underlying30 rfl (by kernel_rfl)) rfl) rfl ?_
    have hres : res = (zeroArgs, 33) := by rw [HRES.out, hb]; rfl
    rw [hres]
    exact ⟨none, 0, rfl, SlB.nil _, fun k hk => absurd rfl hk.1, HM2.out⟩
  · obtain ⟨dv, hty⟩ := HT.out
    have hrange : w6.rangeAt (w.heap.size + 1) 0 ((argsOf A' ds').cells (.slice yo ds'.length yc)) := fun j v hj => by
      have hlt : j < 36 := (List.getElem?_eq_some_iff.1 hj).1
      have h1 := cells_argsOf (argLay_upd (dv' := .slice yo ds'.length yc) hty) ds' j hlt
      rw [argsOf_upd] at h1
      rw [Nat.zero_add, HX6.out.cell j, h1]
      exact hj
    have hload := run_loadAt_mid (P := Try.prog) w6 (w.heap.size + 1) 0 30 _ _ hrange Try.underlying30 rfl (by kernel_rfl)
    have HLOAD := hid hload
    clear hload hrange
    go_upto_region 8 with fail
    refine wp_region_list (wpList_val (v := .agg ((argsOf A' ds').cells (.slice yo ds'.length yc)).toArray) rfl ?_ ?_)
    · show (do pure (Next.value (← Instr.loadAt 30 (.pointer (some ⟨w.heap.size + 1, 0, none⟩))))).run Try.prog w6 = _
      rw [Sem.run_bind, HLOAD.out]
      rfl
    refine wpList_storeC (b := w.heap.size) (cells := ((argsOf A' ds').cells (.slice yo ds'.length yc)).toArray) rfl rfl rfl rfl rfl HTH.out (by kernel_rfl) (cells_one _ _ _ _) ?_
    have hr := World.rangeAt_setCells_same w6 w.heap.size 0 ((argsOf A' ds').cells (.slice yo ds'.length yc)) HTH.out
    have hms : Mods (fun k => k = w.heap.size) w6 (w6.setCells w.heap.size 0 ((argsOf A' ds').cells (.slice yo ds'.length yc))) := Mods.setCells _ rfl
    have HM2 := hid (HM06.out.step hms fun k hk e => absurd hk (by omega))
    have hnz : ∀ k, rb yo ds'.length k → w.heap.size < k := fun k hk => by
      obtain ⟨_, _, _, h4⟩ := HFR.out k hk
      rcases h4 with h4 | h4
      · exact absurd rfl h4.1
      · simp at h4; omega
    have HSL2 := hid (HSL6.out.keep hms fun k hk e => by have := hnz k hk; omega)
    have hmsz := hms.size
    rw [List.toList_toArray]
    generalize w6.setCells w.heap.size 0 ((argsOf A' ds').cells (.slice yo ds'.length yc)) = w7 at hr HM2 HSL2 hmsz ⊢
    have HR := hid hr
    have HNZ := hid hnz
    have HMSZ := hid hmsz
    clear hr hms hnz hty hmsz
    go_wp2_with fail
    refine bodyPost_ret (results_cell2 rfl rfl (run_loadVar_mid w7 w.heap.size 0 _ _ _ HR.out Try.underlying30 rfl (by kernel_rfl)) rfl) rfl ?_
    have hres : res = (argsOf A' ds', 0) := by rw [HRES.out, hb]; rfl
    rw [hres]
    exact ⟨yo, yc, rfl, HSL2.out, fun k hk => ⟨Nat.le_of_lt (HNZ.out k hk), Nat.lt_of_lt_of_le (HFR.out k hk).1 (Nat.le_trans HSZ6.out HMSZ.out)⟩, HM2.out⟩

theorem ReadArgs_any (p : Int) (so : Option Addr) (sc : Nat) (bs : List UInt8) (w : World) (hs : SlB w so sc bs) (hlen : bs.length ≤ 1000000000) :
    Calls Try.prog 10 #[.int .i64 p, .slice so bs.length sc] w (RAP w (rargs p bs).1 (rargs p bs).2) := by
  by_cases ht : there p = true
  · obtain ⟨k, rfl, hk⟩ := there_nat ht
    exact ReadArgs_yes k hk ht so sc bs w hs hlen
  · have ht' : there p = false := by simpa using ht
    have hr : rargs p bs = (zeroArgs, 36) := by simp [rargs, ht']
    rw [hr]
    exact ReadArgs_no p ht' so bs.length sc w

end Go.Proofs.Ytanknjpcgceccaa
