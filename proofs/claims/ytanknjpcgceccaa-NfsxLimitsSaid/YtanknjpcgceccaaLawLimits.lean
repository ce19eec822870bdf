/- law19's NfsxLimits answers true. (Printed by wip/tools/gen_limits.py.) -/
import Derived.Test.YtanknjpcgceccaaLimits
import Derived.Test.YtanknjpcgceccaaKnown19
import Derived.Test.YtanknjpcgceccaaSameN
import Derived.Deep.Cut
import Derived.Laws.OwnMore
namespace Go.Proofs.Ytanknjpcgceccaa
open Go.RowKit

abbrev Ans2 (w : World) (b : Bool) (e : Ending) (w' : World) : Prop := e = .returned (.bool b) ∧ Mods (fun _ => False) w w'

/-- make([]byte, n) -/
theorem mk_bytes (n : Nat) (hn : n ≤ 100000) (w : World) : ∃ w', (Instr.makeSlice 22 (.int .i64 (n : Int)) (.int .i64 (n : Int))).run Try.prog w = .ok (.slice (some ⟨w.heap.size, 0, none⟩) n n) w' ∧
    SlB w' (some ⟨w.heap.size, 0, none⟩) n (List.replicate n 0) ∧ Mods (fun _ => False) w w' := by
  obtain ⟨i0, hi, hz0, hz1, hz2⟩ := info_parts Try.info5
  obtain ⟨w', h1, h2, h3⟩ := run_make_full (P := Try.prog) w 0 22 5 i0 (.int .u8 0) 1 Try.underlying22 hi hz0 hz1 .i64 .i64 n (by rw [hz2]; omega) (by simp only [maxLen]; omega) (Nat.zero_le _)
  refine ⟨w', h1, ?_, (Mods.of_grown h3).mono fun k _ hk => by cases hk⟩
  have h4 : (madeCells (Value.int .u8 0).cells (n * 1)).toList = (List.replicate n 0).map B := by
    rw [Nat.mul_one]
    show (madeCells #[Value.int .u8 0] n).toList = _
    rw [toList_madeCells_one]
    simp [B]
  rw [h4] at h2
  have h5 : OwnB w' (some ⟨w.heap.size, 0, none⟩) n (List.replicate n 0) := by
    show Own w' _ 1 _ (List.replicate n 0).length n _
    rw [List.length_replicate]
    exact h2
  exact h5.sl

theorem wpList_valW {P : Program} {ops : Array Oper} {Q : Exit → Act → World → Prop} {rest : List Oper} {a : Act} {w w' : World} {o : Oper} {v : Value} (hw : Region.wanted o (yielded ops a.tmps) = true) (hr : (execOp a.eval o).run P w = .ok (.value v) w') (h : wpList P ops Q rest (a.put o.dst v) w') : wpList P ops Q (o :: rest) a w := by
  unfold wpList
  rw [if_pos hw]
  refine .inl ?_
  unfold Oper.wp
  rw [hr, Oper.upon_value]
  exact h
theorem wpList_call {P : Program} {ops : Array Oper} {Q : Exit → Act → World → Prop} {rest : List Oper} {a : Act} {w : World} {o : Oper} {f : FuncId} {args : Array Value} {R : Value → World → Prop} (hw : Region.wanted o (yielded ops a.tmps) = true) (hr : (execOp a.eval o).run P w = .ok (.enter f args) w)
    (hc : Calls P f args w fun e w' => ∃ v, e = .returned v ∧ R v w') (h : ∀ v w', R v w' → wpList P ops Q rest (a.put o.dst v) w') : wpList P ops Q (o :: rest) a w := by
  unfold wpList
  rw [if_pos hw]
  refine .inl ?_
  unfold Oper.wp
  rw [hr, Oper.upon_enter]
  refine hc.mono ?_
  rintro e w' ⟨v, rfl, hR⟩
  exact h v w' hR

theorem Blk_setCells {w : World} {b : Nat} {A : Cells} (h : Blk w b A) (l : List Value) (he : A = fun j => l[j]?) : Blk (w.setCells b 0 l) b A := by
  subst he
  refine ⟨Nat.lt_of_lt_of_le h.lt (Mods.setCells (F := fun k => k = b) l rfl).size, fun j => ?_, fun j => by rw [World.frozen?_setCells]; exact h.free j⟩
  by_cases hj : j < l.length
  · have h1 := World.cell?_setCells_in b l 0 w (fun i hi => by rw [Nat.zero_add, h.cell i, List.getElem?_eq_getElem hi]; rfl) j hj
    rw [Nat.zero_add] at h1
    rw [h1, List.getElem?_eq_getElem hj]
  · rw [World.cell?_setCells_out b l 0 w ⟨b, j, none⟩ (fun _ _ => .inr (by show 0 + l.length ≤ j; omega))]
    exact h.cell j
theorem cellsOf_set (a a' : ArgsV) (dv dv' : Value) (c : Nat) (v : Value) (he : a'.cells dv' = (a.cells dv).set c v) (hc : c < 36) : upd (cellsOf a dv) c v = cellsOf a' dv' := by
  funext j
  unfold cellsOf
  rw [he]
  by_cases e : j = c
  · subst e
    rw [upd_at, List.getElem?_set_self (by exact hc)]
  · rw [upd_ne _ _ e, List.getElem?_set_ne (fun h => e h.symm)]
theorem blk_load {w : World} {g : Nat} {a : ArgsV} {dv : Value} (h : Blk w g (cellsOf a dv)) : (Instr.loadAt 30 (.pointer (some ⟨g, 0, none⟩))).run Try.prog w = .ok (.agg (a.cells dv).toArray) w :=
  run_loadAt_mid w g 0 _ _ _ (fun j v hj => by rw [Nat.zero_add, h.cell j]; exact hj) Try.underlying30 rfl (by kernel_rfl)
theorem SlB.of_block {w w' : World} {ao : Option Addr} {cap : Nat} {bs : List UInt8} (h : SlB w ao cap bs) (hb : ∀ k, rb ao bs.length k → w'.heap[k]? = w.heap[k]?) : SlB w' ao cap bs := by
  refine ⟨h.1, h.2.1, h.2.2.1, fun j u hu => ?_⟩
  obtain ⟨b, o, rfl, hc⟩ := h.2.2.2 j u hu
  refine ⟨b, o, rfl, (World.cell?_of_block (hb b ⟨?_, rfl⟩)).trans hc⟩
  intro h0
  have : bs = [] := List.eq_nil_of_length_eq_zero h0
  subst this
  simp at hu
/-- Of arguments all that SameArgs asks. -/
structure AIn (w : World) (x : ArgsV) (A : Array Value) : Prop where
  got : ∃ ao cap, A = (x.cells (.slice ao x.data.length cap)).toArray ∧ SlB w ao cap x.data ∧ (∀ k, rb ao x.data.length k → k < w.heap.size) ∧ x.data.length ≤ 9223372036854775807

set_option maxRecDepth 100000 in
set_option maxHeartbeats 4000000 in
theorem limits_any (kind n : Int) (w : World) : Calls Try.prog 5 #[.int .i64 kind, .int .i64 n] w (Ans2 w true) := by
  have hq1 : -4 < kind.tmod 4 := Int.lt_tmod_of_pos kind (by decide)
  have hq2 : kind.tmod 4 < 4 := Int.tmod_lt_of_pos kind (by decide)
  have hn1 : -40 < n.tmod 40 := Int.lt_tmod_of_pos n (by decide)
  have hn2 : n.tmod 40 < 40 := Int.tmod_lt_of_pos n (by decide)
  go_enter Try.func5, Try.ntmps5
  go_wp2_with fail
  refine (known_any w).mono ?_
  rintro e w1 ⟨rfl, hm1⟩
  have HM1 := hid hm1
  clear hm1
  go_upto_if 18 with fail
  go_cut [0] from 5 (fun v wx => ∃ j : Nat, j < 4 ∧ v = .int .i64 (j : Int) ∧ wx = w1)
  case first =>
    by_cases h0 : kind.tmod 4 < 0
    · go_wp2_with fail
      go_meet
      case rel => exact ⟨(-kind.tmod 4).toNat, by omega, by congr 1; omega, rfl⟩
    · go_wp2_with fail
      go_meet
      case rel => exact ⟨(kind.tmod 4).toNat, by omega, by congr 1; omega, rfl⟩
  case rest =>
    obtain ⟨j, hj, rfl, rfl⟩ := hcut
    have hj4 : j = 0 ∨ j = 1 ∨ j = 2 ∨ j = 3 := by omega
    clear hj hq1 hq2
    rcases hj4 with rfl | rfl | rfl | rfl
    · go_upto_if 28 with fail
      have hmA : Mods (fun _ => False) wc (wc.alloc (.cells #[Value.int IntKind.i64 64, Value.int IntKind.i64 255, Value.int IntKind.i64 1024, Value.int IntKind.i64 8192] 3)) := Mods.alloc _ _ _
      have HM2 := hid (HM1.out.trans hmA)
      clear hmA
      go_cut [1] from 6 (fun v wx => ∃ m : Nat, m < 40 ∧ v = .int .i64 (m : Int) ∧ Hid (Mods (fun _ => False) w wx))
      case first =>
        by_cases h0 : n.tmod 40 < 0
        · go_wp2_with fail
          go_meet
          case rel => exact ⟨(-n.tmod 40).toNat, by omega, by congr 1; omega, HM2⟩
        · go_wp2_with fail
          go_meet
          case rel => exact ⟨(n.tmod 40).toNat, by omega, by congr 1; omega, HM2⟩
      case rest =>
        obtain ⟨m, hm, rfl, HM3⟩ := hcut
        clear HM1 HM2 hn1 hn2
        go_upto_region 11 with fail
        have hLe : (44 + (m : Int)) = ((44 + m : Nat) : Int) := by omega
        obtain ⟨L, hL⟩ : ∃ L, L = 44 + m := ⟨_, rfl⟩
        rw [hLe, ← hL]
        have hLb : L ≤ 20000 := by omega
        clear hLe hL hm
        obtain ⟨w2, hmk, hs2, hm2⟩ := mk_bytes L (by omega) wc
        have hcv := run_conv hs2
        rw [List.length_replicate] at hcv
        have HM4 := hid (HM3.out.trans hm2)
        obtain ⟨s, hs⟩ : ∃ s : List UInt8, s = List.replicate L 0 := ⟨_, rfl⟩
        rw [← hs] at hcv
        have hsl : s.length = L := by rw [hs, List.length_replicate]
        have HSL := hid hsl
        clear hs hs2 hm2 HM3 hsl
        refine wp_region_list (wpList_val (v := .int .i64 (L : Int)) rfl rfl ?_)
        simp only [Act.put, List.setIfInBounds_toArray, List.set_cons_succ, List.set_cons_zero]
        refine wpList_valW (v := .slice (some ⟨wc.heap.size, 0, none⟩) L L) (w' := w2) rfl ?_ ?_
        · show (do pure (Next.value (← Instr.makeSlice 22 (.int .i64 (L : Int)) (.int .i64 (L : Int))))).run Try.prog wc = _
          rw [Sem.run_bind, hmk]; rfl
        simp only [Act.put, List.setIfInBounds_toArray, List.set_cons_succ, List.set_cons_zero]
        refine wpList_val (v := .string (str s)) rfl ?_ ?_
        · show (do pure (Next.value (← convert 22 9 (.slice (some ⟨wc.heap.size, 0, none⟩) L L)))).run Try.prog w2 = _
          rw [Sem.run_bind, hcv]; rfl
        simp only [Act.put, List.setIfInBounds_toArray, List.set_cons_succ, List.set_cons_zero]
        refine wpList_val (v := .string (str s)) rfl rfl ?_
        simp only [Act.put, List.setIfInBounds_toArray, List.set_cons_succ, List.set_cons_zero]
        refine wpList_nil ?_
        clear hmk hcv
        go_upto_region 12 with fail
        refine wp_region_list (wpList_val (v := .agg (zeroArgs.cells (.slice none 0 0)).toArray) rfl (by rw [zeros_eq]; go_simp) ?_)
        simp only [Act.put, List.setIfInBounds_toArray, List.set_cons_succ, List.set_cons_zero]
        refine wpList_valW (v := .pointer (some ⟨w2.heap.size, 0, none⟩)) (w' := w2.alloc (.cells (zeroArgs.cells (.slice none 0 0)).toArray 30)) rfl (by rw [zeros_eq]; go_simp) ?_
        simp only [Act.put, List.setIfInBounds_toArray, List.set_cons_succ, List.set_cons_zero]
        have hZ : Blk (w2.alloc (.cells (zeroArgs.cells (.slice none 0 0)).toArray 30)) w2.heap.size (cellsOf zeroArgs (.slice none 0 0)) := (Blk.new w2 _ _).congr (by funext j; simp [cellsOf])
        have ht : (w2.alloc (.cells (zeroArgs.cells (.slice none 0 0)).toArray 30)).there w2.heap.size 0 36 := fun j hj => ⟨by rw [Nat.zero_add, hZ.cell j]; exact (Option.isSome_iff_exists.2 ⟨_, List.getElem?_eq_getElem (show j < (zeroArgs.cells (.slice none 0 0)).length from hj)⟩), by rw [Nat.zero_add]; exact hZ.free j⟩
        refine wpList_storeC (b := w2.heap.size) (cells := (zeroArgs.cells (.slice none 0 0)).toArray) rfl rfl rfl rfl rfl ht (by kernel_rfl) (cells_one _ _ _ _) ?_
        refine wpList_nil ?_
        have hr := World.rangeAt_setCells_same (w2.alloc (.cells (zeroArgs.cells (.slice none 0 0)).toArray 30)) w2.heap.size 0 (zeroArgs.cells (.slice none 0 0)) ht
        have hB3 := Blk_setCells hZ (zeroArgs.cells (.slice none 0 0)) rfl
        have hm3 : Mods (fun _ => False) w2 ((w2.alloc (.cells (zeroArgs.cells (.slice none 0 0)).toArray 30)).setCells w2.heap.size 0 (zeroArgs.cells (.slice none 0 0))) := (Mods.alloc (fun _ => False) w2 _).step (Mods.setCells (F := fun k => k = w2.heap.size) _ rfl) fun k hk e => absurd hk (by omega)
        rw [List.toList_toArray]
        generalize (w2.alloc (.cells (zeroArgs.cells (.slice none 0 0)).toArray 30)).setCells w2.heap.size 0 (zeroArgs.cells (.slice none 0 0)) = w3 at hB3 hm3 ⊢
        have HB3 := hid hB3
        have HM5 := hid (HM4.out.trans hm3)
        have hg7 : w.heap.size ≤ w2.heap.size := HM4.out.size
        generalize w2.heap.size = g7 at HB3 hg7 ⊢
        clear hZ ht hr hB3 hm3 HM4
        go_upto_region 14 with fail
        have hmA : Mods (fun _ => False) w3 (w3.alloc (.cells #[Value.int IntKind.i64 1, Value.int IntKind.i64 3, Value.int IntKind.i64 10, Value.int IntKind.i64 7] 3)) := Mods.alloc _ _ _
        have HB4 := hid (HB3.out.keep hmA fun h => h)
        have HM6 := hid (HM5.out.trans hmA)
        generalize w3.alloc (.cells #[Value.int IntKind.i64 1, Value.int IntKind.i64 3, Value.int IntKind.i64 10, Value.int IntKind.i64 7] 3) = w4 at HB4 HM6 ⊢
        clear hmA HM5 HB3
        have hcell := HB4.out.cell 0
        have hcell : w4.cell? ⟨g7, 0, none⟩ = some (.string (str [])) := hcell
        have hfree := HB4.out.free 0
        go_upto_region 23 with fail
        have HB5 := hid ((HB4.out.set (o := 0) (u := .string (str [])) rfl (.string (str s))).congr (cellsOf_set zeroArgs (limA 0 s) (.slice none 0 0) (.slice none (limA 0 s).data.length 0) 0 _ rfl (by decide)))
        have HM7 := hid (HM6.out.step (Mods.setCell (F := fun k => k = g7) (a := ⟨g7, 0, none⟩) rfl (.string (str s))) fun k hk e => absurd hk (by omega))
        generalize w4.setCell ⟨g7, 0, none⟩ (.string (str s)) = w5 at HB5 HM7 ⊢
        have HSD : Hid (SlB w5 none 0 (limA 0 s).data) := SlB.nil _
        have HRB : Hid (∀ k, rb none (limA 0 s).data.length k → k < w5.heap.size) := fun k hk => absurd rfl hk.1
        clear hcell hfree
        clear HB4 HM6
        obtain ⟨A, hA⟩ : ∃ A, A = ((limA 0 s).cells (.slice none (limA 0 s).data.length 0)).toArray := ⟨_, rfl⟩
        have hload := blk_load HB5.out
        rw [← hA] at hload
        have hwa := WriteArgs_any 1 (limA 0 s) none 0 w5 HSD.out HRB.out (limA_good 0 s) (limA_few 0 s (by rw [HSL.out]; omega))
        rw [← hA] at hwa
        have HWA := hid hwa; have HLOAD := hid hload; have HA := hid hA
        clear hwa hload hA
        refine wp_region_list (wpList_val (v := .int .i64 1) rfl rfl ?_)
        simp only [Act.put, List.setIfInBounds_toArray, List.set_cons_succ, List.set_cons_zero]
        refine wpList_val (v := .agg A) rfl ?_ ?_
        · show (do pure (Next.value (← Instr.loadAt 30 (.pointer (some ⟨g7, 0, none⟩))))).run Try.prog w5 = _
          rw [Sem.run_bind, HLOAD.out]; rfl
        simp only [Act.put, List.setIfInBounds_toArray, List.set_cons_succ, List.set_cons_zero]
        refine wpList_call (f := 12) (args := #[.int .i64 1, .agg A]) (R := fun v w' => ∃ yo yc, v = .tuple #[.slice yo (wargs 1 (limA 0 s) (.slice none (limA 0 s).data.length 0)).1.length yc, .int .i64 (wargs 1 (limA 0 s) (.slice none (limA 0 s).data.length 0)).2] ∧ Hid (OwnB w' yo yc (wargs 1 (limA 0 s) (.slice none (limA 0 s).data.length 0)).1) ∧ Hid (Mods (fun _ => False) w5 w') ∧ Hid ((wargs 1 (limA 0 s) (.slice none (limA 0 s).data.length 0)).1.length ≤ 1000000)) rfl (by go_simp) ?_ ?_
        · refine HWA.out.mono ?_
          rintro e w' ⟨yo, yc, rfl, h1, h2, _, h4⟩
          exact ⟨_, rfl, yo, yc, rfl, h1, h2, h4⟩
        rintro v w6 ⟨yo, yc, rfl, HO, HM8, HOL⟩
        simp only [Act.put, List.setIfInBounds_toArray, List.set_cons_succ, List.set_cons_zero]
        have hpl := lim_plain 0 (by decide) s (by rw [HSL.out]; omega) none 0
        rcases hpl with ⟨hle, out, hw, hra⟩ | ⟨hgt, hw⟩
        · rw [show wargs 1 (limA 0 s) (.slice none (limA 0 s).data.length 0) = (out, 0) from hw] at HO HOL ⊢
          have hle2 : (L : Int) ≤ 64 := by have h1 : s.length ≤ 64 := hle; rw [HSL.out] at h1; omega
          have HRA := hid hra
          have HAW := hid (show AIn w6 (limA 0 s) A from ⟨none, 0, HA.out, HSD.out.keep HM8.out (fun _ _ h => h), fun k hk => Nat.lt_of_lt_of_le (HRB.out k hk) HM8.out.size, by show (limA 0 s).data.length ≤ _; have := (limA_few 0 s (by rw [HSL.out]; omega)).2.2.2.2.2; omega⟩)
          have HB6 := hid (HB5.out.keep HM8.out fun h => h)
          have HM9 := hid (HM7.out.trans HM8.out)
          clear hle hw hra HWA HLOAD
          dsimp only
          go_upto_region 26 with fail
          refine wp_region_list (wpList_val (v := .int .i64 1) rfl rfl ?_)
          simp only [Act.put, List.setIfInBounds_toArray, List.set_cons_succ, List.set_cons_zero]
          refine wpList_val (v := .slice yo out.length yc) rfl rfl ?_
          simp only [Act.put, List.setIfInBounds_toArray, List.set_cons_succ, List.set_cons_zero]
          refine wpList_call (f := 10) (args := #[.int .i64 1, .slice yo out.length yc]) (R := fun v w' => ∃ zo zc, v = .tuple #[.agg ((limA 0 s).cells (.slice zo (limA 0 s).data.length zc)).toArray, .int .i64 0] ∧ Hid (SlB w' zo zc (limA 0 s).data) ∧ Hid (Mods (fun _ => False) w6 w')) rfl (by go_simp) ?_ ?_
          · refine (ReadArgs_any 1 yo yc out w6 HO.out.sl (by have h1 : out.length ≤ 1000000 := HOL.out; omega)).mono ?_
            rw [show rargs 1 out = (limA 0 s, 0) from HRA.out]
            rintro e w' ⟨zo, zc, rfl, h1, _, h3⟩
            exact ⟨_, rfl, zo, zc, rfl, h1, h3⟩
          rintro v w7 ⟨zo, zc, rfl, HZS, HM10⟩
          obtain ⟨Xa, hX⟩ : ∃ Xa, Xa = ((limA 0 s).cells (.slice zo (limA 0 s).data.length zc)).toArray := ⟨_, rfl⟩
          rw [← hX]
          have HX := hid hX
          clear hX HO HOL HRA
          simp only [Act.put, List.setIfInBounds_toArray, List.set_cons_succ, List.set_cons_zero]
          refine wpList_val (v := .tuple #[.agg Xa, .int .i64 0]) rfl rfl ?_
          simp only [Act.put, List.setIfInBounds_toArray, List.set_cons_succ, List.set_cons_zero]
          refine wpList_val (v := .agg Xa) rfl (by go_simp) ?_
          simp only [Act.put, List.setIfInBounds_toArray, List.set_cons_succ, List.set_cons_zero]
          refine wpList_val (v := .int .i64 0) rfl (by go_simp) ?_
          simp only [Act.put, List.setIfInBounds_toArray, List.set_cons_succ, List.set_cons_zero]
          refine wpList_valW (v := .pointer (some ⟨w7.heap.size, 0, none⟩)) (w' := w7.alloc (.cells (zeroArgs.cells (.slice none 0 0)).toArray 30)) rfl (by rw [zeros_eq]; go_simp) ?_
          simp only [Act.put, List.setIfInBounds_toArray, List.set_cons_succ, List.set_cons_zero]
          have hZ : Blk (w7.alloc (.cells (zeroArgs.cells (.slice none 0 0)).toArray 30)) w7.heap.size (cellsOf zeroArgs (.slice none 0 0)) := (Blk.new w7 _ _).congr (by funext j; simp [cellsOf])
          have ht : (w7.alloc (.cells (zeroArgs.cells (.slice none 0 0)).toArray 30)).there w7.heap.size 0 36 := fun j hj => ⟨by rw [Nat.zero_add, hZ.cell j]; exact (Option.isSome_iff_exists.2 ⟨_, List.getElem?_eq_getElem (show j < (zeroArgs.cells (.slice none 0 0)).length from hj)⟩), by rw [Nat.zero_add]; exact hZ.free j⟩
          have hXs : Xa.size = 36 := by rw [HX.out]; rfl
          refine wpList_storeC (b := w7.heap.size) (cells := Xa) rfl rfl rfl rfl rfl (by rw [hXs]; exact ht) (by rw [hXs]; kernel_rfl) (by rw [HX.out]; exact cells_one _ _ _ _) ?_
          refine wpList_val (v := .int .i64 0) rfl rfl ?_
          simp only [Act.put, List.setIfInBounds_toArray, List.set_cons_succ, List.set_cons_zero]
          refine wpList_nil ?_
          have hr := World.rangeAt_setCells_same (w7.alloc (.cells (zeroArgs.cells (.slice none 0 0)).toArray 30)) w7.heap.size 0 Xa.toList (by rw [Array.length_toList, hXs]; exact ht)
          have hm8 : Mods (fun _ => False) w7 ((w7.alloc (.cells (zeroArgs.cells (.slice none 0 0)).toArray 30)).setCells w7.heap.size 0 Xa.toList) := (Mods.alloc (fun _ => False) w7 _).step (Mods.setCells (F := fun k => k = w7.heap.size) _ rfl) fun k hk e => absurd hk (by omega)
          have hlx := run_loadAt_mid (P := Try.prog) _ w7.heap.size 0 30 Xa.toList _ hr Try.underlying30 rfl (by rw [Array.length_toList, hXs]; kernel_rfl)
          rw [Array.toArray_toList] at hlx
          generalize (w7.alloc (.cells (zeroArgs.cells (.slice none 0 0)).toArray 30)).setCells w7.heap.size 0 Xa.toList = w8 at hm8 hlx ⊢
          have HB8 := HB6.out.keep (HM10.out.trans hm8) fun h => h
          have hla := blk_load HB8
          rw [← HA.out] at hla
          have HLX := hid hlx; have HLA := hid hla
          have HM11 := hid (HM9.out.trans (HM10.out.trans hm8))
          have hsx := HZS.out.keep hm8 fun _ _ h => h
          have hsa := HSD.out.keep (HM8.out.trans (HM10.out.trans hm8)) fun _ _ h => h
          have hsm := nfsxSameArgs_any (limA 0 s) (limA 0 s) zo none zc 0 w8 hsx hsa (by have := (limA_few 0 s (by rw [HSL.out]; omega)).2.2.2.2.2; omega) (by have := (limA_few 0 s (by rw [HSL.out]; omega)).2.2.2.2.2; omega)
          rw [← HX.out, ← HA.out, eqb_self] at hsm
          have HSM := hid hsm
          clear hZ ht hXs hr hm8 hlx HB8 hla hsx hsa hsm HB6 HAW HM10 HM9 HZS
          go_upto_region 27 with fail
          refine wp_region_list (wpList_val (v := .int .i64 0) rfl rfl ?_)
          simp only [Act.put, List.setIfInBounds_toArray, List.set_cons_succ, List.set_cons_zero]
          refine wpList_val (v := .bool true) rfl (by go_simp) ?_
          simp only [Act.put, List.setIfInBounds_toArray, List.set_cons_succ, List.set_cons_zero]
          refine wpList_val (v := .bool true) rfl rfl ?_
          simp only [Act.put, List.setIfInBounds_toArray, List.set_cons_succ, List.set_cons_zero]
          refine wpList_val (v := .int .i64 0) rfl rfl ?_
          simp only [Act.put, List.setIfInBounds_toArray, List.set_cons_succ, List.set_cons_zero]
          refine wpList_val (v := .bool true) rfl (by go_simp) ?_
          simp only [Act.put, List.setIfInBounds_toArray, List.set_cons_succ, List.set_cons_zero]
          refine wpList_val (v := .bool true) rfl (by go_simp) ?_
          simp only [Act.put, List.setIfInBounds_toArray, List.set_cons_succ, List.set_cons_zero]
          refine wpList_val (v := .bool true) rfl rfl ?_
          simp only [Act.put, List.setIfInBounds_toArray, List.set_cons_succ, List.set_cons_zero]
          refine wpList_val (v := .agg Xa) rfl ?_ ?_
          · show (do pure (Next.value (← Instr.loadAt 30 (.pointer (some ⟨w7.heap.size, 0, none⟩))))).run Try.prog w8 = _
            rw [Sem.run_bind, HLX.out]; rfl
          simp only [Act.put, List.setIfInBounds_toArray, List.set_cons_succ, List.set_cons_zero]
          refine wpList_val (v := .agg A) rfl ?_ ?_
          · show (do pure (Next.value (← Instr.loadAt 30 (.pointer (some ⟨g7, 0, none⟩))))).run Try.prog w8 = _
            rw [Sem.run_bind, HLA.out]; rfl
          simp only [Act.put, List.setIfInBounds_toArray, List.set_cons_succ, List.set_cons_zero]
          refine wpList_call (f := 15) (args := #[.agg Xa, .agg A]) (R := fun v w' => v = .bool true ∧ Hid (Mods (fun _ => False) w8 w')) rfl (by go_simp) ?_ ?_
          · refine HSM.out.mono ?_
            rintro e w' ⟨rfl, h1⟩
            exact ⟨_, rfl, rfl, h1⟩
          rintro v w9 ⟨rfl, HM12⟩
          simp only [Act.put, List.setIfInBounds_toArray, List.set_cons_succ, List.set_cons_zero]
          refine wpList_val (v := .bool true) rfl (by go_simp) ?_
          simp only [Act.put, List.setIfInBounds_toArray, List.set_cons_succ, List.set_cons_zero]
          refine wpList_val (v := .bool true) rfl rfl ?_
          simp only [Act.put, List.setIfInBounds_toArray, List.set_cons_succ, List.set_cons_zero]
          refine wpList_nil ?_
          have HM13 := hid (HM11.out.trans HM12.out)
          clear HLX HLA HSM
          go_wp2
          go_ret
          exact ⟨rfl, HM13.out⟩
        · rw [show wargs 1 (limA 0 s) (.slice none (limA 0 s).data.length 0) = ([], 33) from hw]
          have hgt2 : (64 : Int) < L := by have h1 : ¬ s.length ≤ 64 := hgt; rw [HSL.out] at h1; omega
          have HM9 := hid (HM7.out.trans HM8.out)
          clear hgt hw HWA HLOAD HA
          dsimp only [List.length_nil]
          go_wp2
          go_ret
          exact ⟨rfl, HM9.out⟩
    · go_upto_if 28 with fail
      have hmA : Mods (fun _ => False) wc (wc.alloc (.cells #[Value.int IntKind.i64 64, Value.int IntKind.i64 255, Value.int IntKind.i64 1024, Value.int IntKind.i64 8192] 3)) := Mods.alloc _ _ _
      have HM2 := hid (HM1.out.trans hmA)
      clear hmA
      go_cut [1] from 6 (fun v wx => ∃ m : Nat, m < 40 ∧ v = .int .i64 (m : Int) ∧ Hid (Mods (fun _ => False) w wx))
      case first =>
        by_cases h0 : n.tmod 40 < 0
        · go_wp2_with fail
          go_meet
          case rel => exact ⟨(-n.tmod 40).toNat, by omega, by congr 1; omega, HM2⟩
        · go_wp2_with fail
          go_meet
          case rel => exact ⟨(n.tmod 40).toNat, by omega, by congr 1; omega, HM2⟩
      case rest =>
        obtain ⟨m, hm, rfl, HM3⟩ := hcut
        clear HM1 HM2 hn1 hn2
        go_upto_region 11 with fail
        have hLe : (235 + (m : Int)) = ((235 + m : Nat) : Int) := by omega
        obtain ⟨L, hL⟩ : ∃ L, L = 235 + m := ⟨_, rfl⟩
        rw [hLe, ← hL]
        have hLb : L ≤ 20000 := by omega
        clear hLe hL hm
        obtain ⟨w2, hmk, hs2, hm2⟩ := mk_bytes L (by omega) wc
        have hcv := run_conv hs2
        rw [List.length_replicate] at hcv
        have HM4 := hid (HM3.out.trans hm2)
        obtain ⟨s, hs⟩ : ∃ s : List UInt8, s = List.replicate L 0 := ⟨_, rfl⟩
        rw [← hs] at hcv
        have hsl : s.length = L := by rw [hs, List.length_replicate]
        have HSL := hid hsl
        clear hs hs2 hm2 HM3 hsl
        refine wp_region_list (wpList_val (v := .int .i64 (L : Int)) rfl rfl ?_)
        simp only [Act.put, List.setIfInBounds_toArray, List.set_cons_succ, List.set_cons_zero]
        refine wpList_valW (v := .slice (some ⟨wc.heap.size, 0, none⟩) L L) (w' := w2) rfl ?_ ?_
        · show (do pure (Next.value (← Instr.makeSlice 22 (.int .i64 (L : Int)) (.int .i64 (L : Int))))).run Try.prog wc = _
          rw [Sem.run_bind, hmk]; rfl
        simp only [Act.put, List.setIfInBounds_toArray, List.set_cons_succ, List.set_cons_zero]
        refine wpList_val (v := .string (str s)) rfl ?_ ?_
        · show (do pure (Next.value (← convert 22 9 (.slice (some ⟨wc.heap.size, 0, none⟩) L L)))).run Try.prog w2 = _
          rw [Sem.run_bind, hcv]; rfl
        simp only [Act.put, List.setIfInBounds_toArray, List.set_cons_succ, List.set_cons_zero]
        refine wpList_val (v := .string (str s)) rfl rfl ?_
        simp only [Act.put, List.setIfInBounds_toArray, List.set_cons_succ, List.set_cons_zero]
        refine wpList_nil ?_
        clear hmk hcv
        go_upto_region 12 with fail
        refine wp_region_list (wpList_val (v := .agg (zeroArgs.cells (.slice none 0 0)).toArray) rfl (by rw [zeros_eq]; go_simp) ?_)
        simp only [Act.put, List.setIfInBounds_toArray, List.set_cons_succ, List.set_cons_zero]
        refine wpList_valW (v := .pointer (some ⟨w2.heap.size, 0, none⟩)) (w' := w2.alloc (.cells (zeroArgs.cells (.slice none 0 0)).toArray 30)) rfl (by rw [zeros_eq]; go_simp) ?_
        simp only [Act.put, List.setIfInBounds_toArray, List.set_cons_succ, List.set_cons_zero]
        have hZ : Blk (w2.alloc (.cells (zeroArgs.cells (.slice none 0 0)).toArray 30)) w2.heap.size (cellsOf zeroArgs (.slice none 0 0)) := (Blk.new w2 _ _).congr (by funext j; simp [cellsOf])
        have ht : (w2.alloc (.cells (zeroArgs.cells (.slice none 0 0)).toArray 30)).there w2.heap.size 0 36 := fun j hj => ⟨by rw [Nat.zero_add, hZ.cell j]; exact (Option.isSome_iff_exists.2 ⟨_, List.getElem?_eq_getElem (show j < (zeroArgs.cells (.slice none 0 0)).length from hj)⟩), by rw [Nat.zero_add]; exact hZ.free j⟩
        refine wpList_storeC (b := w2.heap.size) (cells := (zeroArgs.cells (.slice none 0 0)).toArray) rfl rfl rfl rfl rfl ht (by kernel_rfl) (cells_one _ _ _ _) ?_
        refine wpList_nil ?_
        have hr := World.rangeAt_setCells_same (w2.alloc (.cells (zeroArgs.cells (.slice none 0 0)).toArray 30)) w2.heap.size 0 (zeroArgs.cells (.slice none 0 0)) ht
        have hB3 := Blk_setCells hZ (zeroArgs.cells (.slice none 0 0)) rfl
        have hm3 : Mods (fun _ => False) w2 ((w2.alloc (.cells (zeroArgs.cells (.slice none 0 0)).toArray 30)).setCells w2.heap.size 0 (zeroArgs.cells (.slice none 0 0))) := (Mods.alloc (fun _ => False) w2 _).step (Mods.setCells (F := fun k => k = w2.heap.size) _ rfl) fun k hk e => absurd hk (by omega)
        rw [List.toList_toArray]
        generalize (w2.alloc (.cells (zeroArgs.cells (.slice none 0 0)).toArray 30)).setCells w2.heap.size 0 (zeroArgs.cells (.slice none 0 0)) = w3 at hB3 hm3 ⊢
        have HB3 := hid hB3
        have HM5 := hid (HM4.out.trans hm3)
        have hg7 : w.heap.size ≤ w2.heap.size := HM4.out.size
        generalize w2.heap.size = g7 at HB3 hg7 ⊢
        clear hZ ht hr hB3 hm3 HM4
        go_upto_region 14 with fail
        have hmA : Mods (fun _ => False) w3 (w3.alloc (.cells #[Value.int IntKind.i64 1, Value.int IntKind.i64 3, Value.int IntKind.i64 10, Value.int IntKind.i64 7] 3)) := Mods.alloc _ _ _
        have HB4 := hid (HB3.out.keep hmA fun h => h)
        have HM6 := hid (HM5.out.trans hmA)
        generalize w3.alloc (.cells #[Value.int IntKind.i64 1, Value.int IntKind.i64 3, Value.int IntKind.i64 10, Value.int IntKind.i64 7] 3) = w4 at HB4 HM6 ⊢
        clear hmA HM5 HB3
        have hcell := HB4.out.cell 2
        have hcell : w4.cell? ⟨g7, 2, none⟩ = some (.string (str [])) := hcell
        have hfree := HB4.out.free 2
        go_upto_region 23 with fail
        have HB5 := hid ((HB4.out.set (o := 2) (u := .string (str [])) rfl (.string (str s))).congr (cellsOf_set zeroArgs (limA 1 s) (.slice none 0 0) (.slice none (limA 1 s).data.length 0) 2 _ rfl (by decide)))
        have HM7 := hid (HM6.out.step (Mods.setCell (F := fun k => k = g7) (a := ⟨g7, 2, none⟩) rfl (.string (str s))) fun k hk e => absurd hk (by omega))
        generalize w4.setCell ⟨g7, 2, none⟩ (.string (str s)) = w5 at HB5 HM7 ⊢
        have HSD : Hid (SlB w5 none 0 (limA 1 s).data) := SlB.nil _
        have HRB : Hid (∀ k, rb none (limA 1 s).data.length k → k < w5.heap.size) := fun k hk => absurd rfl hk.1
        clear hcell hfree
        clear HB4 HM6
        obtain ⟨A, hA⟩ : ∃ A, A = ((limA 1 s).cells (.slice none (limA 1 s).data.length 0)).toArray := ⟨_, rfl⟩
        have hload := blk_load HB5.out
        rw [← hA] at hload
        have hwa := WriteArgs_any 3 (limA 1 s) none 0 w5 HSD.out HRB.out (limA_good 1 s) (limA_few 1 s (by rw [HSL.out]; omega))
        rw [← hA] at hwa
        have HWA := hid hwa; have HLOAD := hid hload; have HA := hid hA
        clear hwa hload hA
        refine wp_region_list (wpList_val (v := .int .i64 3) rfl rfl ?_)
        simp only [Act.put, List.setIfInBounds_toArray, List.set_cons_succ, List.set_cons_zero]
        refine wpList_val (v := .agg A) rfl ?_ ?_
        · show (do pure (Next.value (← Instr.loadAt 30 (.pointer (some ⟨g7, 0, none⟩))))).run Try.prog w5 = _
          rw [Sem.run_bind, HLOAD.out]; rfl
        simp only [Act.put, List.setIfInBounds_toArray, List.set_cons_succ, List.set_cons_zero]
        refine wpList_call (f := 12) (args := #[.int .i64 3, .agg A]) (R := fun v w' => ∃ yo yc, v = .tuple #[.slice yo (wargs 3 (limA 1 s) (.slice none (limA 1 s).data.length 0)).1.length yc, .int .i64 (wargs 3 (limA 1 s) (.slice none (limA 1 s).data.length 0)).2] ∧ Hid (OwnB w' yo yc (wargs 3 (limA 1 s) (.slice none (limA 1 s).data.length 0)).1) ∧ Hid (Mods (fun _ => False) w5 w') ∧ Hid ((wargs 3 (limA 1 s) (.slice none (limA 1 s).data.length 0)).1.length ≤ 1000000)) rfl (by go_simp) ?_ ?_
        · refine HWA.out.mono ?_
          rintro e w' ⟨yo, yc, rfl, h1, h2, _, h4⟩
          exact ⟨_, rfl, yo, yc, rfl, h1, h2, h4⟩
        rintro v w6 ⟨yo, yc, rfl, HO, HM8, HOL⟩
        simp only [Act.put, List.setIfInBounds_toArray, List.set_cons_succ, List.set_cons_zero]
        have hpl := lim_plain 1 (by decide) s (by rw [HSL.out]; omega) none 0
        rcases hpl with ⟨hle, out, hw, hra⟩ | ⟨hgt, hw⟩
        · rw [show wargs 3 (limA 1 s) (.slice none (limA 1 s).data.length 0) = (out, 0) from hw] at HO HOL ⊢
          have hle2 : (L : Int) ≤ 255 := by have h1 : s.length ≤ 255 := hle; rw [HSL.out] at h1; omega
          have HRA := hid hra
          have HAW := hid (show AIn w6 (limA 1 s) A from ⟨none, 0, HA.out, HSD.out.keep HM8.out (fun _ _ h => h), fun k hk => Nat.lt_of_lt_of_le (HRB.out k hk) HM8.out.size, by show (limA 1 s).data.length ≤ _; have := (limA_few 1 s (by rw [HSL.out]; omega)).2.2.2.2.2; omega⟩)
          have HB6 := hid (HB5.out.keep HM8.out fun h => h)
          have HM9 := hid (HM7.out.trans HM8.out)
          clear hle hw hra HWA HLOAD
          dsimp only
          go_upto_region 26 with fail
          refine wp_region_list (wpList_val (v := .int .i64 3) rfl rfl ?_)
          simp only [Act.put, List.setIfInBounds_toArray, List.set_cons_succ, List.set_cons_zero]
          refine wpList_val (v := .slice yo out.length yc) rfl rfl ?_
          simp only [Act.put, List.setIfInBounds_toArray, List.set_cons_succ, List.set_cons_zero]
          refine wpList_call (f := 10) (args := #[.int .i64 3, .slice yo out.length yc]) (R := fun v w' => ∃ zo zc, v = .tuple #[.agg ((limA 1 s).cells (.slice zo (limA 1 s).data.length zc)).toArray, .int .i64 0] ∧ Hid (SlB w' zo zc (limA 1 s).data) ∧ Hid (Mods (fun _ => False) w6 w')) rfl (by go_simp) ?_ ?_
          · refine (ReadArgs_any 3 yo yc out w6 HO.out.sl (by have h1 : out.length ≤ 1000000 := HOL.out; omega)).mono ?_
            rw [show rargs 3 out = (limA 1 s, 0) from HRA.out]
            rintro e w' ⟨zo, zc, rfl, h1, _, h3⟩
            exact ⟨_, rfl, zo, zc, rfl, h1, h3⟩
          rintro v w7 ⟨zo, zc, rfl, HZS, HM10⟩
          obtain ⟨Xa, hX⟩ : ∃ Xa, Xa = ((limA 1 s).cells (.slice zo (limA 1 s).data.length zc)).toArray := ⟨_, rfl⟩
          rw [← hX]
          have HX := hid hX
          clear hX HO HOL HRA
          simp only [Act.put, List.setIfInBounds_toArray, List.set_cons_succ, List.set_cons_zero]
          refine wpList_val (v := .tuple #[.agg Xa, .int .i64 0]) rfl rfl ?_
          simp only [Act.put, List.setIfInBounds_toArray, List.set_cons_succ, List.set_cons_zero]
          refine wpList_val (v := .agg Xa) rfl (by go_simp) ?_
          simp only [Act.put, List.setIfInBounds_toArray, List.set_cons_succ, List.set_cons_zero]
          refine wpList_val (v := .int .i64 0) rfl (by go_simp) ?_
          simp only [Act.put, List.setIfInBounds_toArray, List.set_cons_succ, List.set_cons_zero]
          refine wpList_valW (v := .pointer (some ⟨w7.heap.size, 0, none⟩)) (w' := w7.alloc (.cells (zeroArgs.cells (.slice none 0 0)).toArray 30)) rfl (by rw [zeros_eq]; go_simp) ?_
          simp only [Act.put, List.setIfInBounds_toArray, List.set_cons_succ, List.set_cons_zero]
          have hZ : Blk (w7.alloc (.cells (zeroArgs.cells (.slice none 0 0)).toArray 30)) w7.heap.size (cellsOf zeroArgs (.slice none 0 0)) := (Blk.new w7 _ _).congr (by funext j; simp [cellsOf])
          have ht : (w7.alloc (.cells (zeroArgs.cells (.slice none 0 0)).toArray 30)).there w7.heap.size 0 36 := fun j hj => ⟨by rw [Nat.zero_add, hZ.cell j]; exact (Option.isSome_iff_exists.2 ⟨_, List.getElem?_eq_getElem (show j < (zeroArgs.cells (.slice none 0 0)).length from hj)⟩), by rw [Nat.zero_add]; exact hZ.free j⟩
          have hXs : Xa.size = 36 := by rw [HX.out]; rfl
          refine wpList_storeC (b := w7.heap.size) (cells := Xa) rfl rfl rfl rfl rfl (by rw [hXs]; exact ht) (by rw [hXs]; kernel_rfl) (by rw [HX.out]; exact cells_one _ _ _ _) ?_
          refine wpList_val (v := .int .i64 0) rfl rfl ?_
          simp only [Act.put, List.setIfInBounds_toArray, List.set_cons_succ, List.set_cons_zero]
          refine wpList_nil ?_
          have hr := World.rangeAt_setCells_same (w7.alloc (.cells (zeroArgs.cells (.slice none 0 0)).toArray 30)) w7.heap.size 0 Xa.toList (by rw [Array.length_toList, hXs]; exact ht)
          have hm8 : Mods (fun _ => False) w7 ((w7.alloc (.cells (zeroArgs.cells (.slice none 0 0)).toArray 30)).setCells w7.heap.size 0 Xa.toList) := (Mods.alloc (fun _ => False) w7 _).step (Mods.setCells (F := fun k => k = w7.heap.size) _ rfl) fun k hk e => absurd hk (by omega)
          have hlx := run_loadAt_mid (P := Try.prog) _ w7.heap.size 0 30 Xa.toList _ hr Try.underlying30 rfl (by rw [Array.length_toList, hXs]; kernel_rfl)
          rw [Array.toArray_toList] at hlx
          generalize (w7.alloc (.cells (zeroArgs.cells (.slice none 0 0)).toArray 30)).setCells w7.heap.size 0 Xa.toList = w8 at hm8 hlx ⊢
          have HB8 := HB6.out.keep (HM10.out.trans hm8) fun h => h
          have hla := blk_load HB8
          rw [← HA.out] at hla
          have HLX := hid hlx; have HLA := hid hla
          have HM11 := hid (HM9.out.trans (HM10.out.trans hm8))
          have hsx := HZS.out.keep hm8 fun _ _ h => h
          have hsa := HSD.out.keep (HM8.out.trans (HM10.out.trans hm8)) fun _ _ h => h
          have hsm := nfsxSameArgs_any (limA 1 s) (limA 1 s) zo none zc 0 w8 hsx hsa (by have := (limA_few 1 s (by rw [HSL.out]; omega)).2.2.2.2.2; omega) (by have := (limA_few 1 s (by rw [HSL.out]; omega)).2.2.2.2.2; omega)
          rw [← HX.out, ← HA.out, eqb_self] at hsm
          have HSM := hid hsm
          clear hZ ht hXs hr hm8 hlx HB8 hla hsx hsa hsm HB6 HAW HM10 HM9 HZS
          go_upto_region 27 with fail
          refine wp_region_list (wpList_val (v := .int .i64 0) rfl rfl ?_)
          simp only [Act.put, List.setIfInBounds_toArray, List.set_cons_succ, List.set_cons_zero]
          refine wpList_val (v := .bool true) rfl (by go_simp) ?_
          simp only [Act.put, List.setIfInBounds_toArray, List.set_cons_succ, List.set_cons_zero]
          refine wpList_val (v := .bool true) rfl rfl ?_
          simp only [Act.put, List.setIfInBounds_toArray, List.set_cons_succ, List.set_cons_zero]
          refine wpList_val (v := .int .i64 0) rfl rfl ?_
          simp only [Act.put, List.setIfInBounds_toArray, List.set_cons_succ, List.set_cons_zero]
          refine wpList_val (v := .bool true) rfl (by go_simp) ?_
          simp only [Act.put, List.setIfInBounds_toArray, List.set_cons_succ, List.set_cons_zero]
          refine wpList_val (v := .bool true) rfl (by go_simp) ?_
          simp only [Act.put, List.setIfInBounds_toArray, List.set_cons_succ, List.set_cons_zero]
          refine wpList_val (v := .bool true) rfl rfl ?_
          simp only [Act.put, List.setIfInBounds_toArray, List.set_cons_succ, List.set_cons_zero]
          refine wpList_val (v := .agg Xa) rfl ?_ ?_
          · show (do pure (Next.value (← Instr.loadAt 30 (.pointer (some ⟨w7.heap.size, 0, none⟩))))).run Try.prog w8 = _
            rw [Sem.run_bind, HLX.out]; rfl
          simp only [Act.put, List.setIfInBounds_toArray, List.set_cons_succ, List.set_cons_zero]
          refine wpList_val (v := .agg A) rfl ?_ ?_
          · show (do pure (Next.value (← Instr.loadAt 30 (.pointer (some ⟨g7, 0, none⟩))))).run Try.prog w8 = _
            rw [Sem.run_bind, HLA.out]; rfl
          simp only [Act.put, List.setIfInBounds_toArray, List.set_cons_succ, List.set_cons_zero]
          refine wpList_call (f := 15) (args := #[.agg Xa, .agg A]) (R := fun v w' => v = .bool true ∧ Hid (Mods (fun _ => False) w8 w')) rfl (by go_simp) ?_ ?_
          · refine HSM.out.mono ?_
            rintro e w' ⟨rfl, h1⟩
            exact ⟨_, rfl, rfl, h1⟩
          rintro v w9 ⟨rfl, HM12⟩
          simp only [Act.put, List.setIfInBounds_toArray, List.set_cons_succ, List.set_cons_zero]
          refine wpList_val (v := .bool true) rfl (by go_simp) ?_
          simp only [Act.put, List.setIfInBounds_toArray, List.set_cons_succ, List.set_cons_zero]
          refine wpList_val (v := .bool true) rfl rfl ?_
          simp only [Act.put, List.setIfInBounds_toArray, List.set_cons_succ, List.set_cons_zero]
          refine wpList_nil ?_
          have HM13 := hid (HM11.out.trans HM12.out)
          clear HLX HLA HSM
          go_wp2
          go_ret
          exact ⟨rfl, HM13.out⟩
        · rw [show wargs 3 (limA 1 s) (.slice none (limA 1 s).data.length 0) = ([], 33) from hw]
          have hgt2 : (255 : Int) < L := by have h1 : ¬ s.length ≤ 255 := hgt; rw [HSL.out] at h1; omega
          have HM9 := hid (HM7.out.trans HM8.out)
          clear hgt hw HWA HLOAD HA
          dsimp only [List.length_nil]
          go_wp2
          go_ret
          exact ⟨rfl, HM9.out⟩
    · go_upto_if 28 with fail
      have hmA : Mods (fun _ => False) wc (wc.alloc (.cells #[Value.int IntKind.i64 64, Value.int IntKind.i64 255, Value.int IntKind.i64 1024, Value.int IntKind.i64 8192] 3)) := Mods.alloc _ _ _
      have HM2 := hid (HM1.out.trans hmA)
      clear hmA
      go_cut [1] from 6 (fun v wx => ∃ m : Nat, m < 40 ∧ v = .int .i64 (m : Int) ∧ Hid (Mods (fun _ => False) w wx))
      case first =>
        by_cases h0 : n.tmod 40 < 0
        · go_wp2_with fail
          go_meet
          case rel => exact ⟨(-n.tmod 40).toNat, by omega, by congr 1; omega, HM2⟩
        · go_wp2_with fail
          go_meet
          case rel => exact ⟨(n.tmod 40).toNat, by omega, by congr 1; omega, HM2⟩
      case rest =>
        obtain ⟨m, hm, rfl, HM3⟩ := hcut
        clear HM1 HM2 hn1 hn2
        go_upto_region 11 with fail
        have hLe : (1004 + (m : Int)) = ((1004 + m : Nat) : Int) := by omega
        obtain ⟨L, hL⟩ : ∃ L, L = 1004 + m := ⟨_, rfl⟩
        rw [hLe, ← hL]
        have hLb : L ≤ 20000 := by omega
        clear hLe hL hm
        obtain ⟨w2, hmk, hs2, hm2⟩ := mk_bytes L (by omega) wc
        have hcv := run_conv hs2
        rw [List.length_replicate] at hcv
        have HM4 := hid (HM3.out.trans hm2)
        obtain ⟨s, hs⟩ : ∃ s : List UInt8, s = List.replicate L 0 := ⟨_, rfl⟩
        rw [← hs] at hcv
        have hsl : s.length = L := by rw [hs, List.length_replicate]
        have HSL := hid hsl
        clear hs hs2 hm2 HM3 hsl
        refine wp_region_list (wpList_val (v := .int .i64 (L : Int)) rfl rfl ?_)
        simp only [Act.put, List.setIfInBounds_toArray, List.set_cons_succ, List.set_cons_zero]
        refine wpList_valW (v := .slice (some ⟨wc.heap.size, 0, none⟩) L L) (w' := w2) rfl ?_ ?_
        · show (do pure (Next.value (← Instr.makeSlice 22 (.int .i64 (L : Int)) (.int .i64 (L : Int))))).run Try.prog wc = _
          rw [Sem.run_bind, hmk]; rfl
        simp only [Act.put, List.setIfInBounds_toArray, List.set_cons_succ, List.set_cons_zero]
        refine wpList_val (v := .string (str s)) rfl ?_ ?_
        · show (do pure (Next.value (← convert 22 9 (.slice (some ⟨wc.heap.size, 0, none⟩) L L)))).run Try.prog w2 = _
          rw [Sem.run_bind, hcv]; rfl
        simp only [Act.put, List.setIfInBounds_toArray, List.set_cons_succ, List.set_cons_zero]
        refine wpList_val (v := .string (str s)) rfl rfl ?_
        simp only [Act.put, List.setIfInBounds_toArray, List.set_cons_succ, List.set_cons_zero]
        refine wpList_nil ?_
        clear hmk hcv
        go_upto_region 12 with fail
        refine wp_region_list (wpList_val (v := .agg (zeroArgs.cells (.slice none 0 0)).toArray) rfl (by rw [zeros_eq]; go_simp) ?_)
        simp only [Act.put, List.setIfInBounds_toArray, List.set_cons_succ, List.set_cons_zero]
        refine wpList_valW (v := .pointer (some ⟨w2.heap.size, 0, none⟩)) (w' := w2.alloc (.cells (zeroArgs.cells (.slice none 0 0)).toArray 30)) rfl (by rw [zeros_eq]; go_simp) ?_
        simp only [Act.put, List.setIfInBounds_toArray, List.set_cons_succ, List.set_cons_zero]
        have hZ : Blk (w2.alloc (.cells (zeroArgs.cells (.slice none 0 0)).toArray 30)) w2.heap.size (cellsOf zeroArgs (.slice none 0 0)) := (Blk.new w2 _ _).congr (by funext j; simp [cellsOf])
        have ht : (w2.alloc (.cells (zeroArgs.cells (.slice none 0 0)).toArray 30)).there w2.heap.size 0 36 := fun j hj => ⟨by rw [Nat.zero_add, hZ.cell j]; exact (Option.isSome_iff_exists.2 ⟨_, List.getElem?_eq_getElem (show j < (zeroArgs.cells (.slice none 0 0)).length from hj)⟩), by rw [Nat.zero_add]; exact hZ.free j⟩
        refine wpList_storeC (b := w2.heap.size) (cells := (zeroArgs.cells (.slice none 0 0)).toArray) rfl rfl rfl rfl rfl ht (by kernel_rfl) (cells_one _ _ _ _) ?_
        refine wpList_nil ?_
        have hr := World.rangeAt_setCells_same (w2.alloc (.cells (zeroArgs.cells (.slice none 0 0)).toArray 30)) w2.heap.size 0 (zeroArgs.cells (.slice none 0 0)) ht
        have hB3 := Blk_setCells hZ (zeroArgs.cells (.slice none 0 0)) rfl
        have hm3 : Mods (fun _ => False) w2 ((w2.alloc (.cells (zeroArgs.cells (.slice none 0 0)).toArray 30)).setCells w2.heap.size 0 (zeroArgs.cells (.slice none 0 0))) := (Mods.alloc (fun _ => False) w2 _).step (Mods.setCells (F := fun k => k = w2.heap.size) _ rfl) fun k hk e => absurd hk (by omega)
        rw [List.toList_toArray]
        generalize (w2.alloc (.cells (zeroArgs.cells (.slice none 0 0)).toArray 30)).setCells w2.heap.size 0 (zeroArgs.cells (.slice none 0 0)) = w3 at hB3 hm3 ⊢
        have HB3 := hid hB3
        have HM5 := hid (HM4.out.trans hm3)
        have hg7 : w.heap.size ≤ w2.heap.size := HM4.out.size
        generalize w2.heap.size = g7 at HB3 hg7 ⊢
        clear hZ ht hr hB3 hm3 HM4
        go_upto_region 14 with fail
        have hmA : Mods (fun _ => False) w3 (w3.alloc (.cells #[Value.int IntKind.i64 1, Value.int IntKind.i64 3, Value.int IntKind.i64 10, Value.int IntKind.i64 7] 3)) := Mods.alloc _ _ _
        have HB4 := hid (HB3.out.keep hmA fun h => h)
        have HM6 := hid (HM5.out.trans hmA)
        generalize w3.alloc (.cells #[Value.int IntKind.i64 1, Value.int IntKind.i64 3, Value.int IntKind.i64 10, Value.int IntKind.i64 7] 3) = w4 at HB4 HM6 ⊢
        clear hmA HM5 HB3
        have hcell := HB4.out.cell 4
        have hcell : w4.cell? ⟨g7, 4, none⟩ = some (.string (str [])) := hcell
        have hfree := HB4.out.free 4
        go_upto_region 23 with fail
        have HB5 := hid ((HB4.out.set (o := 4) (u := .string (str [])) rfl (.string (str s))).congr (cellsOf_set zeroArgs (limA 2 s) (.slice none 0 0) (.slice none (limA 2 s).data.length 0) 4 _ rfl (by decide)))
        have HM7 := hid (HM6.out.step (Mods.setCell (F := fun k => k = g7) (a := ⟨g7, 4, none⟩) rfl (.string (str s))) fun k hk e => absurd hk (by omega))
        generalize w4.setCell ⟨g7, 4, none⟩ (.string (str s)) = w5 at HB5 HM7 ⊢
        have HSD : Hid (SlB w5 none 0 (limA 2 s).data) := SlB.nil _
        have HRB : Hid (∀ k, rb none (limA 2 s).data.length k → k < w5.heap.size) := fun k hk => absurd rfl hk.1
        clear hcell hfree
        clear HB4 HM6
        obtain ⟨A, hA⟩ : ∃ A, A = ((limA 2 s).cells (.slice none (limA 2 s).data.length 0)).toArray := ⟨_, rfl⟩
        have hload := blk_load HB5.out
        rw [← hA] at hload
        have hwa := WriteArgs_any 10 (limA 2 s) none 0 w5 HSD.out HRB.out (limA_good 2 s) (limA_few 2 s (by rw [HSL.out]; omega))
        rw [← hA] at hwa
        have HWA := hid hwa; have HLOAD := hid hload; have HA := hid hA
        clear hwa hload hA
        refine wp_region_list (wpList_val (v := .int .i64 10) rfl rfl ?_)
        simp only [Act.put, List.setIfInBounds_toArray, List.set_cons_succ, List.set_cons_zero]
        refine wpList_val (v := .agg A) rfl ?_ ?_
        · show (do pure (Next.value (← Instr.loadAt 30 (.pointer (some ⟨g7, 0, none⟩))))).run Try.prog w5 = _
          rw [Sem.run_bind, HLOAD.out]; rfl
        simp only [Act.put, List.setIfInBounds_toArray, List.set_cons_succ, List.set_cons_zero]
        refine wpList_call (f := 12) (args := #[.int .i64 10, .agg A]) (R := fun v w' => ∃ yo yc, v = .tuple #[.slice yo (wargs 10 (limA 2 s) (.slice none (limA 2 s).data.length 0)).1.length yc, .int .i64 (wargs 10 (limA 2 s) (.slice none (limA 2 s).data.length 0)).2] ∧ Hid (OwnB w' yo yc (wargs 10 (limA 2 s) (.slice none (limA 2 s).data.length 0)).1) ∧ Hid (Mods (fun _ => False) w5 w') ∧ Hid ((wargs 10 (limA 2 s) (.slice none (limA 2 s).data.length 0)).1.length ≤ 1000000)) rfl (by go_simp) ?_ ?_
        · refine HWA.out.mono ?_
          rintro e w' ⟨yo, yc, rfl, h1, h2, _, h4⟩
          exact ⟨_, rfl, yo, yc, rfl, h1, h2, h4⟩
        rintro v w6 ⟨yo, yc, rfl, HO, HM8, HOL⟩
        simp only [Act.put, List.setIfInBounds_toArray, List.set_cons_succ, List.set_cons_zero]
        have hpl := lim_plain 2 (by decide) s (by rw [HSL.out]; omega) none 0
        rcases hpl with ⟨hle, out, hw, hra⟩ | ⟨hgt, hw⟩
        · rw [show wargs 10 (limA 2 s) (.slice none (limA 2 s).data.length 0) = (out, 0) from hw] at HO HOL ⊢
          have hle2 : (L : Int) ≤ 1024 := by have h1 : s.length ≤ 1024 := hle; rw [HSL.out] at h1; omega
          have HRA := hid hra
          have HAW := hid (show AIn w6 (limA 2 s) A from ⟨none, 0, HA.out, HSD.out.keep HM8.out (fun _ _ h => h), fun k hk => Nat.lt_of_lt_of_le (HRB.out k hk) HM8.out.size, by show (limA 2 s).data.length ≤ _; have := (limA_few 2 s (by rw [HSL.out]; omega)).2.2.2.2.2; omega⟩)
          have HB6 := hid (HB5.out.keep HM8.out fun h => h)
          have HM9 := hid (HM7.out.trans HM8.out)
          clear hle hw hra HWA HLOAD
          dsimp only
          go_upto_region 26 with fail
          refine wp_region_list (wpList_val (v := .int .i64 10) rfl rfl ?_)
          simp only [Act.put, List.setIfInBounds_toArray, List.set_cons_succ, List.set_cons_zero]
          refine wpList_val (v := .slice yo out.length yc) rfl rfl ?_
          simp only [Act.put, List.setIfInBounds_toArray, List.set_cons_succ, List.set_cons_zero]
          refine wpList_call (f := 10) (args := #[.int .i64 10, .slice yo out.length yc]) (R := fun v w' => ∃ zo zc, v = .tuple #[.agg ((limA 2 s).cells (.slice zo (limA 2 s).data.length zc)).toArray, .int .i64 0] ∧ Hid (SlB w' zo zc (limA 2 s).data) ∧ Hid (Mods (fun _ => False) w6 w')) rfl (by go_simp) ?_ ?_
          · refine (ReadArgs_any 10 yo yc out w6 HO.out.sl (by have h1 : out.length ≤ 1000000 := HOL.out; omega)).mono ?_
            rw [show rargs 10 out = (limA 2 s, 0) from HRA.out]
            rintro e w' ⟨zo, zc, rfl, h1, _, h3⟩
            exact ⟨_, rfl, zo, zc, rfl, h1, h3⟩
          rintro v w7 ⟨zo, zc, rfl, HZS, HM10⟩
          obtain ⟨Xa, hX⟩ : ∃ Xa, Xa = ((limA 2 s).cells (.slice zo (limA 2 s).data.length zc)).toArray := ⟨_, rfl⟩
          rw [← hX]
          have HX := hid hX
          clear hX HO HOL HRA
          simp only [Act.put, List.setIfInBounds_toArray, List.set_cons_succ, List.set_cons_zero]
          refine wpList_val (v := .tuple #[.agg Xa, .int .i64 0]) rfl rfl ?_
          simp only [Act.put, List.setIfInBounds_toArray, List.set_cons_succ, List.set_cons_zero]
          refine wpList_val (v := .agg Xa) rfl (by go_simp) ?_
          simp only [Act.put, List.setIfInBounds_toArray, List.set_cons_succ, List.set_cons_zero]
          refine wpList_val (v := .int .i64 0) rfl (by go_simp) ?_
          simp only [Act.put, List.setIfInBounds_toArray, List.set_cons_succ, List.set_cons_zero]
          refine wpList_valW (v := .pointer (some ⟨w7.heap.size, 0, none⟩)) (w' := w7.alloc (.cells (zeroArgs.cells (.slice none 0 0)).toArray 30)) rfl (by rw [zeros_eq]; go_simp) ?_
          simp only [Act.put, List.setIfInBounds_toArray, List.set_cons_succ, List.set_cons_zero]
          have hZ : Blk (w7.alloc (.cells (zeroArgs.cells (.slice none 0 0)).toArray 30)) w7.heap.size (cellsOf zeroArgs (.slice none 0 0)) := (Blk.new w7 _ _).congr (by funext j; simp [cellsOf])
          have ht : (w7.alloc (.cells (zeroArgs.cells (.slice none 0 0)).toArray 30)).there w7.heap.size 0 36 := fun j hj => ⟨by rw [Nat.zero_add, hZ.cell j]; exact (Option.isSome_iff_exists.2 ⟨_, List.getElem?_eq_getElem (show j < (zeroArgs.cells (.slice none 0 0)).length from hj)⟩), by rw [Nat.zero_add]; exact hZ.free j⟩
          have hXs : Xa.size = 36 := by rw [HX.out]; rfl
          refine wpList_storeC (b := w7.heap.size) (cells := Xa) rfl rfl rfl rfl rfl (by rw [hXs]; exact ht) (by rw [hXs]; kernel_rfl) (by rw [HX.out]; exact cells_one _ _ _ _) ?_
          refine wpList_val (v := .int .i64 0) rfl rfl ?_
          simp only [Act.put, List.setIfInBounds_toArray, List.set_cons_succ, List.set_cons_zero]
          refine wpList_nil ?_
          have hr := World.rangeAt_setCells_same (w7.alloc (.cells (zeroArgs.cells (.slice none 0 0)).toArray 30)) w7.heap.size 0 Xa.toList (by rw [Array.length_toList, hXs]; exact ht)
          have hm8 : Mods (fun _ => False) w7 ((w7.alloc (.cells (zeroArgs.cells (.slice none 0 0)).toArray 30)).setCells w7.heap.size 0 Xa.toList) := (Mods.alloc (fun _ => False) w7 _).step (Mods.setCells (F := fun k => k = w7.heap.size) _ rfl) fun k hk e => absurd hk (by omega)
          have hlx := run_loadAt_mid (P := Try.prog) _ w7.heap.size 0 30 Xa.toList _ hr Try.underlying30 rfl (by rw [Array.length_toList, hXs]; kernel_rfl)
          rw [Array.toArray_toList] at hlx
          generalize (w7.alloc (.cells (zeroArgs.cells (.slice none 0 0)).toArray 30)).setCells w7.heap.size 0 Xa.toList = w8 at hm8 hlx ⊢
          have HB8 := HB6.out.keep (HM10.out.trans hm8) fun h => h
          have hla := blk_load HB8
          rw [← HA.out] at hla
          have HLX := hid hlx; have HLA := hid hla
          have HM11 := hid (HM9.out.trans (HM10.out.trans hm8))
          have hsx := HZS.out.keep hm8 fun _ _ h => h
          have hsa := HSD.out.keep (HM8.out.trans (HM10.out.trans hm8)) fun _ _ h => h
          have hsm := nfsxSameArgs_any (limA 2 s) (limA 2 s) zo none zc 0 w8 hsx hsa (by have := (limA_few 2 s (by rw [HSL.out]; omega)).2.2.2.2.2; omega) (by have := (limA_few 2 s (by rw [HSL.out]; omega)).2.2.2.2.2; omega)
          rw [← HX.out, ← HA.out, eqb_self] at hsm
          have HSM := hid hsm
          clear hZ ht hXs hr hm8 hlx HB8 hla hsx hsa hsm HB6 HAW HM10 HM9 HZS
          go_upto_region 27 with fail
          refine wp_region_list (wpList_val (v := .int .i64 0) rfl rfl ?_)
          simp only [Act.put, List.setIfInBounds_toArray, List.set_cons_succ, List.set_cons_zero]
          refine wpList_val (v := .bool true) rfl (by go_simp) ?_
          simp only [Act.put, List.setIfInBounds_toArray, List.set_cons_succ, List.set_cons_zero]
          refine wpList_val (v := .bool true) rfl rfl ?_
          simp only [Act.put, List.setIfInBounds_toArray, List.set_cons_succ, List.set_cons_zero]
          refine wpList_val (v := .int .i64 0) rfl rfl ?_
          simp only [Act.put, List.setIfInBounds_toArray, List.set_cons_succ, List.set_cons_zero]
          refine wpList_val (v := .bool true) rfl (by go_simp) ?_
          simp only [Act.put, List.setIfInBounds_toArray, List.set_cons_succ, List.set_cons_zero]
          refine wpList_val (v := .bool true) rfl (by go_simp) ?_
          simp only [Act.put, List.setIfInBounds_toArray, List.set_cons_succ, List.set_cons_zero]
          refine wpList_val (v := .bool true) rfl rfl ?_
          simp only [Act.put, List.setIfInBounds_toArray, List.set_cons_succ, List.set_cons_zero]
          refine wpList_val (v := .agg Xa) rfl ?_ ?_
          · show (do pure (Next.value (← Instr.loadAt 30 (.pointer (some ⟨w7.heap.size, 0, none⟩))))).run Try.prog w8 = _
            rw [Sem.run_bind, HLX.out]; rfl
          simp only [Act.put, List.setIfInBounds_toArray, List.set_cons_succ, List.set_cons_zero]
          refine wpList_val (v := .agg A) rfl ?_ ?_
          · show (do pure (Next.value (← Instr.loadAt 30 (.pointer (some ⟨g7, 0, none⟩))))).run Try.prog w8 = _
            rw [Sem.run_bind, HLA.out]; rfl
          simp only [Act.put, List.setIfInBounds_toArray, List.set_cons_succ, List.set_cons_zero]
          refine wpList_call (f := 15) (args := #[.agg Xa, .agg A]) (R := fun v w' => v = .bool true ∧ Hid (Mods (fun _ => False) w8 w')) rfl (by go_simp) ?_ ?_
          · refine HSM.out.mono ?_
            rintro e w' ⟨rfl, h1⟩
            exact ⟨_, rfl, rfl, h1⟩
          rintro v w9 ⟨rfl, HM12⟩
          simp only [Act.put, List.setIfInBounds_toArray, List.set_cons_succ, List.set_cons_zero]
          refine wpList_val (v := .bool true) rfl (by go_simp) ?_
          simp only [Act.put, List.setIfInBounds_toArray, List.set_cons_succ, List.set_cons_zero]
          refine wpList_val (v := .bool true) rfl rfl ?_
          simp only [Act.put, List.setIfInBounds_toArray, List.set_cons_succ, List.set_cons_zero]
          refine wpList_nil ?_
          have HM13 := hid (HM11.out.trans HM12.out)
          clear HLX HLA HSM
          go_wp2
          go_ret
          exact ⟨rfl, HM13.out⟩
        · rw [show wargs 10 (limA 2 s) (.slice none (limA 2 s).data.length 0) = ([], 33) from hw]
          have hgt2 : (1024 : Int) < L := by have h1 : ¬ s.length ≤ 1024 := hgt; rw [HSL.out] at h1; omega
          have HM9 := hid (HM7.out.trans HM8.out)
          clear hgt hw HWA HLOAD HA
          dsimp only [List.length_nil]
          go_wp2
          go_ret
          exact ⟨rfl, HM9.out⟩
    · go_upto_if 28 with fail
      have hmA : Mods (fun _ => False) wc (wc.alloc (.cells #[Value.int IntKind.i64 64, Value.int IntKind.i64 255, Value.int IntKind.i64 1024, Value.int IntKind.i64 8192] 3)) := Mods.alloc _ _ _
      have HM2 := hid (HM1.out.trans hmA)
      clear hmA
      go_cut [1] from 6 (fun v wx => ∃ m : Nat, m < 40 ∧ v = .int .i64 (m : Int) ∧ Hid (Mods (fun _ => False) w wx))
      case first =>
        by_cases h0 : n.tmod 40 < 0
        · go_wp2_with fail
          go_meet
          case rel => exact ⟨(-n.tmod 40).toNat, by omega, by congr 1; omega, HM2⟩
        · go_wp2_with fail
          go_meet
          case rel => exact ⟨(n.tmod 40).toNat, by omega, by congr 1; omega, HM2⟩
      case rest =>
        obtain ⟨m, hm, rfl, HM3⟩ := hcut
        clear HM1 HM2 hn1 hn2
        go_upto_region 11 with fail
        have hLe : (8172 + (m : Int)) = ((8172 + m : Nat) : Int) := by omega
        obtain ⟨L, hL⟩ : ∃ L, L = 8172 + m := ⟨_, rfl⟩
        rw [hLe, ← hL]
        have hLb : L ≤ 20000 := by omega
        clear hLe hL hm
        obtain ⟨w2, hmk, hs2, hm2⟩ := mk_bytes L (by omega) wc
        have hcv := run_conv hs2
        rw [List.length_replicate] at hcv
        have HM4 := hid (HM3.out.trans hm2)
        obtain ⟨s, hs⟩ : ∃ s : List UInt8, s = List.replicate L 0 := ⟨_, rfl⟩
        rw [← hs] at hcv
        have hsl : s.length = L := by rw [hs, List.length_replicate]
        have HSL := hid hsl
        clear hs hs2 hm2 HM3 hsl
        refine wp_region_list (wpList_val (v := .int .i64 (L : Int)) rfl rfl ?_)
        simp only [Act.put, List.setIfInBounds_toArray, List.set_cons_succ, List.set_cons_zero]
        refine wpList_valW (v := .slice (some ⟨wc.heap.size, 0, none⟩) L L) (w' := w2) rfl ?_ ?_
        · show (do pure (Next.value (← Instr.makeSlice 22 (.int .i64 (L : Int)) (.int .i64 (L : Int))))).run Try.prog wc = _
          rw [Sem.run_bind, hmk]; rfl
        simp only [Act.put, List.setIfInBounds_toArray, List.set_cons_succ, List.set_cons_zero]
        refine wpList_val (v := .string (str s)) rfl ?_ ?_
        · show (do pure (Next.value (← convert 22 9 (.slice (some ⟨wc.heap.size, 0, none⟩) L L)))).run Try.prog w2 = _
          rw [Sem.run_bind, hcv]; rfl
        simp only [Act.put, List.setIfInBounds_toArray, List.set_cons_succ, List.set_cons_zero]
        refine wpList_val (v := .string (str s)) rfl rfl ?_
        simp only [Act.put, List.setIfInBounds_toArray, List.set_cons_succ, List.set_cons_zero]
        refine wpList_nil ?_
        clear hmk hcv
        go_upto_region 12 with fail
        refine wp_region_list (wpList_val (v := .agg (zeroArgs.cells (.slice none 0 0)).toArray) rfl (by rw [zeros_eq]; go_simp) ?_)
        simp only [Act.put, List.setIfInBounds_toArray, List.set_cons_succ, List.set_cons_zero]
        refine wpList_valW (v := .pointer (some ⟨w2.heap.size, 0, none⟩)) (w' := w2.alloc (.cells (zeroArgs.cells (.slice none 0 0)).toArray 30)) rfl (by rw [zeros_eq]; go_simp) ?_
        simp only [Act.put, List.setIfInBounds_toArray, List.set_cons_succ, List.set_cons_zero]
        have hZ : Blk (w2.alloc (.cells (zeroArgs.cells (.slice none 0 0)).toArray 30)) w2.heap.size (cellsOf zeroArgs (.slice none 0 0)) := (Blk.new w2 _ _).congr (by funext j; simp [cellsOf])
        have ht : (w2.alloc (.cells (zeroArgs.cells (.slice none 0 0)).toArray 30)).there w2.heap.size 0 36 := fun j hj => ⟨by rw [Nat.zero_add, hZ.cell j]; exact (Option.isSome_iff_exists.2 ⟨_, List.getElem?_eq_getElem (show j < (zeroArgs.cells (.slice none 0 0)).length from hj)⟩), by rw [Nat.zero_add]; exact hZ.free j⟩
        refine wpList_storeC (b := w2.heap.size) (cells := (zeroArgs.cells (.slice none 0 0)).toArray) rfl rfl rfl rfl rfl ht (by kernel_rfl) (cells_one _ _ _ _) ?_
        refine wpList_nil ?_
        have hr := World.rangeAt_setCells_same (w2.alloc (.cells (zeroArgs.cells (.slice none 0 0)).toArray 30)) w2.heap.size 0 (zeroArgs.cells (.slice none 0 0)) ht
        have hB3 := Blk_setCells hZ (zeroArgs.cells (.slice none 0 0)) rfl
        have hm3 : Mods (fun _ => False) w2 ((w2.alloc (.cells (zeroArgs.cells (.slice none 0 0)).toArray 30)).setCells w2.heap.size 0 (zeroArgs.cells (.slice none 0 0))) := (Mods.alloc (fun _ => False) w2 _).step (Mods.setCells (F := fun k => k = w2.heap.size) _ rfl) fun k hk e => absurd hk (by omega)
        rw [List.toList_toArray]
        generalize (w2.alloc (.cells (zeroArgs.cells (.slice none 0 0)).toArray 30)).setCells w2.heap.size 0 (zeroArgs.cells (.slice none 0 0)) = w3 at hB3 hm3 ⊢
        have HB3 := hid hB3
        have HM5 := hid (HM4.out.trans hm3)
        have hg7 : w.heap.size ≤ w2.heap.size := HM4.out.size
        generalize w2.heap.size = g7 at HB3 hg7 ⊢
        clear hZ ht hr hB3 hm3 HM4
        go_upto_region 14 with fail
        have hmA : Mods (fun _ => False) w3 (w3.alloc (.cells #[Value.int IntKind.i64 1, Value.int IntKind.i64 3, Value.int IntKind.i64 10, Value.int IntKind.i64 7] 3)) := Mods.alloc _ _ _
        have HB4 := hid (HB3.out.keep hmA fun h => h)
        have HM6 := hid (HM5.out.trans hmA)
        generalize w3.alloc (.cells #[Value.int IntKind.i64 1, Value.int IntKind.i64 3, Value.int IntKind.i64 10, Value.int IntKind.i64 7] 3) = w4 at HB4 HM6 ⊢
        clear hmA HM5 HB3
        obtain ⟨cp, ob, heq, hsl5⟩ := conv_sb s w4
        have HSL5 := hid hsl5
        clear hsl5
        have hmB : Mods (fun _ => False) w4 (w4.alloc ob) := Mods.alloc _ _ _
        have HB4a := hid (HB4.out.keep hmB fun h => h)
        have hcell : (w4.alloc ob).cell? ⟨g7, 28, none⟩ = some (.slice none 0 0) := HB4a.out.cell 28
        have hfree := HB4a.out.free 28
        have hg4 := HB4.out.lt
        clear hmB
        go_upto_region 23 with fail
        have hbs := HB4.out.set (o := 28) (u := .slice none 0 0) rfl (.slice (some ⟨w4.heap.size, 0, none⟩) s.length cp)
        have hmC : Mods (fun _ => False) (w4.setCell ⟨g7, 28, none⟩ (.slice (some ⟨w4.heap.size, 0, none⟩) s.length cp)) ((w4.setCell ⟨g7, 28, none⟩ (.slice (some ⟨w4.heap.size, 0, none⟩) s.length cp)).alloc ob).drew := (Mods.alloc _ _ _).trans (Mods.drew _ _)
        have HB5 := hid ((hbs.keep hmC fun h => h).congr (cellsOf_set zeroArgs (limA 3 s) (.slice none 0 0) (.slice (some ⟨w4.heap.size, 0, none⟩) (limA 3 s).data.length cp) 28 _ rfl (by decide)))
        have HM7 := hid ((HM6.out.step (Mods.setCell (F := fun k => k = g7) (a := ⟨g7, 28, none⟩) rfl (.slice (some ⟨w4.heap.size, 0, none⟩) s.length cp)) fun k hk e => absurd hk (by omega)).trans hmC)
        have hsz4 : (w4.setCell ⟨g7, 28, none⟩ (.slice (some ⟨w4.heap.size, 0, none⟩) s.length cp)).heap.size = w4.heap.size := by simp
        have hn1 : (w4.drew.alloc ob).heap[w4.heap.size]? = some ob := heap_alloc_new w4.drew ob
        have hn2 : ((w4.setCell ⟨g7, 28, none⟩ (.slice (some ⟨w4.heap.size, 0, none⟩) s.length cp)).alloc ob).drew.heap[w4.heap.size]? = some ob := by
          have h := heap_alloc_new (w4.setCell ⟨g7, 28, none⟩ (.slice (some ⟨w4.heap.size, 0, none⟩) s.length cp)) ob
          rw [hsz4] at h
          exact h
        have HSD : Hid (SlB ((w4.setCell ⟨g7, 28, none⟩ (.slice (some ⟨w4.heap.size, 0, none⟩) s.length cp)).alloc ob).drew (some ⟨w4.heap.size, 0, none⟩) cp (limA 3 s).data) := HSL5.out.of_block fun k hk => by
          have hk' : w4.heap.size = k := hk.2
          subst hk'
          rw [hn1, hn2]
        have HRB : Hid (∀ k, rb (some ⟨w4.heap.size, 0, none⟩) (limA 3 s).data.length k → k < ((w4.setCell ⟨g7, 28, none⟩ (.slice (some ⟨w4.heap.size, 0, none⟩) s.length cp)).alloc ob).drew.heap.size) := fun k hk => by
          have hk' : w4.heap.size = k := hk.2
          subst hk'
          exact lt_of_heap hn2
        generalize ((w4.setCell ⟨g7, 28, none⟩ (.slice (some ⟨w4.heap.size, 0, none⟩) s.length cp)).alloc ob).drew = w5 at HB5 HM7 HSD HRB ⊢
        clear hbs hmC hsz4 hn1 hn2 hcell hfree heq HSL5 HB4a
        clear HB4 HM6
        obtain ⟨A, hA⟩ : ∃ A, A = ((limA 3 s).cells (.slice (some ⟨w4.heap.size, 0, none⟩) (limA 3 s).data.length cp)).toArray := ⟨_, rfl⟩
        have hload := blk_load HB5.out
        rw [← hA] at hload
        have hwa := WriteArgs_any 7 (limA 3 s) (some ⟨w4.heap.size, 0, none⟩) cp w5 HSD.out HRB.out (limA_good 3 s) (limA_few 3 s (by rw [HSL.out]; omega))
        rw [← hA] at hwa
        have HWA := hid hwa; have HLOAD := hid hload; have HA := hid hA
        clear hwa hload hA
        refine wp_region_list (wpList_val (v := .int .i64 7) rfl rfl ?_)
        simp only [Act.put, List.setIfInBounds_toArray, List.set_cons_succ, List.set_cons_zero]
        refine wpList_val (v := .agg A) rfl ?_ ?_
        · show (do pure (Next.value (← Instr.loadAt 30 (.pointer (some ⟨g7, 0, none⟩))))).run Try.prog w5 = _
          rw [Sem.run_bind, HLOAD.out]; rfl
        simp only [Act.put, List.setIfInBounds_toArray, List.set_cons_succ, List.set_cons_zero]
        refine wpList_call (f := 12) (args := #[.int .i64 7, .agg A]) (R := fun v w' => ∃ yo yc, v = .tuple #[.slice yo (wargs 7 (limA 3 s) (.slice (some ⟨w4.heap.size, 0, none⟩) (limA 3 s).data.length cp)).1.length yc, .int .i64 (wargs 7 (limA 3 s) (.slice (some ⟨w4.heap.size, 0, none⟩) (limA 3 s).data.length cp)).2] ∧ Hid (OwnB w' yo yc (wargs 7 (limA 3 s) (.slice (some ⟨w4.heap.size, 0, none⟩) (limA 3 s).data.length cp)).1) ∧ Hid (Mods (fun _ => False) w5 w') ∧ Hid ((wargs 7 (limA 3 s) (.slice (some ⟨w4.heap.size, 0, none⟩) (limA 3 s).data.length cp)).1.length ≤ 1000000)) rfl (by go_simp) ?_ ?_
        · refine HWA.out.mono ?_
          rintro e w' ⟨yo, yc, rfl, h1, h2, _, h4⟩
          exact ⟨_, rfl, yo, yc, rfl, h1, h2, h4⟩
        rintro v w6 ⟨yo, yc, rfl, HO, HM8, HOL⟩
        simp only [Act.put, List.setIfInBounds_toArray, List.set_cons_succ, List.set_cons_zero]
        have hpl := lim_plain 3 (by decide) s (by rw [HSL.out]; omega) (some ⟨w4.heap.size, 0, none⟩) cp
        rcases hpl with ⟨hle, out, hw, hra⟩ | ⟨hgt, hw⟩
        · rw [show wargs 7 (limA 3 s) (.slice (some ⟨w4.heap.size, 0, none⟩) (limA 3 s).data.length cp) = (out, 0) from hw] at HO HOL ⊢
          have hle2 : (L : Int) ≤ 8192 := by have h1 : s.length ≤ 8192 := hle; rw [HSL.out] at h1; omega
          have HRA := hid hra
          have HAW := hid (show AIn w6 (limA 3 s) A from ⟨(some ⟨w4.heap.size, 0, none⟩), cp, HA.out, HSD.out.keep HM8.out (fun _ _ h => h), fun k hk => Nat.lt_of_lt_of_le (HRB.out k hk) HM8.out.size, by show (limA 3 s).data.length ≤ _; have := (limA_few 3 s (by rw [HSL.out]; omega)).2.2.2.2.2; omega⟩)
          have HB6 := hid (HB5.out.keep HM8.out fun h => h)
          have HM9 := hid (HM7.out.trans HM8.out)
          clear hle hw hra HWA HLOAD
          dsimp only
          go_upto_region 26 with fail
          refine wp_region_list (wpList_val (v := .int .i64 7) rfl rfl ?_)
          simp only [Act.put, List.setIfInBounds_toArray, List.set_cons_succ, List.set_cons_zero]
          refine wpList_val (v := .slice yo out.length yc) rfl rfl ?_
          simp only [Act.put, List.setIfInBounds_toArray, List.set_cons_succ, List.set_cons_zero]
          refine wpList_call (f := 10) (args := #[.int .i64 7, .slice yo out.length yc]) (R := fun v w' => ∃ zo zc, v = .tuple #[.agg ((limA 3 s).cells (.slice zo (limA 3 s).data.length zc)).toArray, .int .i64 0] ∧ Hid (SlB w' zo zc (limA 3 s).data) ∧ Hid (Mods (fun _ => False) w6 w')) rfl (by go_simp) ?_ ?_
          · refine (ReadArgs_any 7 yo yc out w6 HO.out.sl (by have h1 : out.length ≤ 1000000 := HOL.out; omega)).mono ?_
            rw [show rargs 7 out = (limA 3 s, 0) from HRA.out]
            rintro e w' ⟨zo, zc, rfl, h1, _, h3⟩
            exact ⟨_, rfl, zo, zc, rfl, h1, h3⟩
          rintro v w7 ⟨zo, zc, rfl, HZS, HM10⟩
          obtain ⟨Xa, hX⟩ : ∃ Xa, Xa = ((limA 3 s).cells (.slice zo (limA 3 s).data.length zc)).toArray := ⟨_, rfl⟩
          rw [← hX]
          have HX := hid hX
          clear hX HO HOL HRA
          simp only [Act.put, List.setIfInBounds_toArray, List.set_cons_succ, List.set_cons_zero]
          refine wpList_val (v := .tuple #[.agg Xa, .int .i64 0]) rfl rfl ?_
          simp only [Act.put, List.setIfInBounds_toArray, List.set_cons_succ, List.set_cons_zero]
          refine wpList_val (v := .agg Xa) rfl (by go_simp) ?_
          simp only [Act.put, List.setIfInBounds_toArray, List.set_cons_succ, List.set_cons_zero]
          refine wpList_val (v := .int .i64 0) rfl (by go_simp) ?_
          simp only [Act.put, List.setIfInBounds_toArray, List.set_cons_succ, List.set_cons_zero]
          refine wpList_valW (v := .pointer (some ⟨w7.heap.size, 0, none⟩)) (w' := w7.alloc (.cells (zeroArgs.cells (.slice none 0 0)).toArray 30)) rfl (by rw [zeros_eq]; go_simp) ?_
          simp only [Act.put, List.setIfInBounds_toArray, List.set_cons_succ, List.set_cons_zero]
          have hZ : Blk (w7.alloc (.cells (zeroArgs.cells (.slice none 0 0)).toArray 30)) w7.heap.size (cellsOf zeroArgs (.slice none 0 0)) := (Blk.new w7 _ _).congr (by funext j; simp [cellsOf])
          have ht : (w7.alloc (.cells (zeroArgs.cells (.slice none 0 0)).toArray 30)).there w7.heap.size 0 36 := fun j hj => ⟨by rw [Nat.zero_add, hZ.cell j]; exact (Option.isSome_iff_exists.2 ⟨_, List.getElem?_eq_getElem (show j < (zeroArgs.cells (.slice none 0 0)).length from hj)⟩), by rw [Nat.zero_add]; exact hZ.free j⟩
          have hXs : Xa.size = 36 := by rw [HX.out]; rfl
          refine wpList_storeC (b := w7.heap.size) (cells := Xa) rfl rfl rfl rfl rfl (by rw [hXs]; exact ht) (by rw [hXs]; kernel_rfl) (by rw [HX.out]; exact cells_one _ _ _ _) ?_
          refine wpList_val (v := .int .i64 0) rfl rfl ?_
          simp only [Act.put, List.setIfInBounds_toArray, List.set_cons_succ, List.set_cons_zero]
          refine wpList_nil ?_
          have hr := World.rangeAt_setCells_same (w7.alloc (.cells (zeroArgs.cells (.slice none 0 0)).toArray 30)) w7.heap.size 0 Xa.toList (by rw [Array.length_toList, hXs]; exact ht)
          have hm8 : Mods (fun _ => False) w7 ((w7.alloc (.cells (zeroArgs.cells (.slice none 0 0)).toArray 30)).setCells w7.heap.size 0 Xa.toList) := (Mods.alloc (fun _ => False) w7 _).step (Mods.setCells (F := fun k => k = w7.heap.size) _ rfl) fun k hk e => absurd hk (by omega)
          have hlx := run_loadAt_mid (P := Try.prog) _ w7.heap.size 0 30 Xa.toList _ hr Try.underlying30 rfl (by rw [Array.length_toList, hXs]; kernel_rfl)
          rw [Array.toArray_toList] at hlx
          generalize (w7.alloc (.cells (zeroArgs.cells (.slice none 0 0)).toArray 30)).setCells w7.heap.size 0 Xa.toList = w8 at hm8 hlx ⊢
          have HB8 := HB6.out.keep (HM10.out.trans hm8) fun h => h
          have hla := blk_load HB8
          rw [← HA.out] at hla
          have HLX := hid hlx; have HLA := hid hla
          have HM11 := hid (HM9.out.trans (HM10.out.trans hm8))
          have hsx := HZS.out.keep hm8 fun _ _ h => h
          have hsa := HSD.out.keep (HM8.out.trans (HM10.out.trans hm8)) fun _ _ h => h
          have hsm := nfsxSameArgs_any (limA 3 s) (limA 3 s) zo (some ⟨w4.heap.size, 0, none⟩) zc cp w8 hsx hsa (by have := (limA_few 3 s (by rw [HSL.out]; omega)).2.2.2.2.2; omega) (by have := (limA_few 3 s (by rw [HSL.out]; omega)).2.2.2.2.2; omega)
          rw [← HX.out, ← HA.out, eqb_self] at hsm
          have HSM := hid hsm
          clear hZ ht hXs hr hm8 hlx HB8 hla hsx hsa hsm HB6 HAW HM10 HM9 HZS
          go_upto_region 27 with fail
          refine wp_region_list (wpList_val (v := .int .i64 0) rfl rfl ?_)
          simp only [Act.put, List.setIfInBounds_toArray, List.set_cons_succ, List.set_cons_zero]
          refine wpList_val (v := .bool true) rfl (by go_simp) ?_
          simp only [Act.put, List.setIfInBounds_toArray, List.set_cons_succ, List.set_cons_zero]
          refine wpList_val (v := .bool true) rfl rfl ?_
          simp only [Act.put, List.setIfInBounds_toArray, List.set_cons_succ, List.set_cons_zero]
          refine wpList_val (v := .int .i64 0) rfl rfl ?_
          simp only [Act.put, List.setIfInBounds_toArray, List.set_cons_succ, List.set_cons_zero]
          refine wpList_val (v := .bool true) rfl (by go_simp) ?_
          simp only [Act.put, List.setIfInBounds_toArray, List.set_cons_succ, List.set_cons_zero]
          refine wpList_val (v := .bool true) rfl (by go_simp) ?_
          simp only [Act.put, List.setIfInBounds_toArray, List.set_cons_succ, List.set_cons_zero]
          refine wpList_val (v := .bool true) rfl rfl ?_
          simp only [Act.put, List.setIfInBounds_toArray, List.set_cons_succ, List.set_cons_zero]
          refine wpList_val (v := .agg Xa) rfl ?_ ?_
          · show (do pure (Next.value (← Instr.loadAt 30 (.pointer (some ⟨w7.heap.size, 0, none⟩))))).run Try.prog w8 = _
            rw [Sem.run_bind, HLX.out]; rfl
          simp only [Act.put, List.setIfInBounds_toArray, List.set_cons_succ, List.set_cons_zero]
          refine wpList_val (v := .agg A) rfl ?_ ?_
          · show (do pure (Next.value (← Instr.loadAt 30 (.pointer (some ⟨g7, 0, none⟩))))).run Try.prog w8 = _
            rw [Sem.run_bind, HLA.out]; rfl
          simp only [Act.put, List.setIfInBounds_toArray, List.set_cons_succ, List.set_cons_zero]
          refine wpList_call (f := 15) (args := #[.agg Xa, .agg A]) (R := fun v w' => v = .bool true ∧ Hid (Mods (fun _ => False) w8 w')) rfl (by go_simp) ?_ ?_
          · refine HSM.out.mono ?_
            rintro e w' ⟨rfl, h1⟩
            exact ⟨_, rfl, rfl, h1⟩
          rintro v w9 ⟨rfl, HM12⟩
          simp only [Act.put, List.setIfInBounds_toArray, List.set_cons_succ, List.set_cons_zero]
          refine wpList_val (v := .bool true) rfl (by go_simp) ?_
          simp only [Act.put, List.setIfInBounds_toArray, List.set_cons_succ, List.set_cons_zero]
          refine wpList_val (v := .bool true) rfl rfl ?_
          simp only [Act.put, List.setIfInBounds_toArray, List.set_cons_succ, List.set_cons_zero]
          refine wpList_nil ?_
          have HM13 := hid (HM11.out.trans HM12.out)
          clear HLX HLA HSM
          go_wp2
          go_ret
          exact ⟨rfl, HM13.out⟩
        · rw [show wargs 7 (limA 3 s) (.slice (some ⟨w4.heap.size, 0, none⟩) (limA 3 s).data.length cp) = ([], 33) from hw]
          have hgt2 : (8192 : Int) < L := by have h1 : ¬ s.length ≤ 8192 := hgt; rw [HSL.out] at h1; omega
          have HM9 := hid (HM7.out.trans HM8.out)
          clear hgt hw HWA HLOAD HA
          dsimp only [List.length_nil]
          go_wp2
          go_ret
          exact ⟨rfl, HM9.out⟩

end Go.Proofs.Ytanknjpcgceccaa
