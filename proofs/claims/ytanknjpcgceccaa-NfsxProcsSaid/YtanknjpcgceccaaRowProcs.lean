/- NfsxProcs: for every arguments, the law returns true, and its arguments read as they did. No condition. -/
import Derived.Test.YtanknjpcgceccaaProcs
import Derived.Test.YtanknjpcgceccaaSameRN
import Derived.Test.YtanknjpcgceccaaKnown19
import Derived.Test.YtanknjpcgceccaaOpen
namespace Go.Proofs.Ytanknjpcgceccaa
open Go.RowKit

abbrev Ans2 (w : World) (b : Bool) (e : Ending) (w' : World) : Prop := e = .returned (.bool b) ∧ Mods (fun _ => False) w w'
/-- The results, ahead of the second 'if'. -/
def emptyR1 (p : Int) : ResV := if p = 1 then { zeroRes with obj := ⟨true, { zeroAttr with type := 1 }⟩ } else zeroRes

theorem load_args {w : World} {g : Nat} {A : Array Value} (h : w.rangeAt g 0 A.toList) (hi : A.size = 36) :
    (Instr.loadAt 30 (.pointer (some ⟨g, 0, none⟩))).run Try.prog w = .ok (.agg A) w := by
  have := run_loadAt_mid (P := Try.prog) w g 0 30 A.toList _ h Try.underlying30 rfl (by rw [Array.length_toList, hi]; kernel_rfl)
  simpa using this
theorem load_res {w : World} {g : Nat} {A : Array Value} (h : w.rangeAt g 0 A.toList) (hi : A.size = 88) :
    (Instr.loadAt 42 (.pointer (some ⟨g, 0, none⟩))).run Try.prog w = .ok (.agg A) w := by
  have := run_loadAt_mid (P := Try.prog) w g 0 42 A.toList _ h Try.underlying42 rfl (by rw [Array.length_toList, hi]; kernel_rfl)
  simpa using this

theorem emptyA_good (p : Int) : (emptyA p).good ∧ (emptyA p).few ∧ (emptyA p).data = [] := by
  unfold emptyA; split
  · exact ⟨by simp [zeroArgs, zeroSat, ArgsV.good, SattrV.good, TimeV.good], by simp [zeroArgs, ArgsV.few], rfl⟩
  · exact ⟨zero_good, zero_few, rfl⟩
theorem emptyR_good (p : Int) : (emptyR p).good ∧ (emptyR p).few ∧ (emptyR p).data = [] ∧ (emptyR p).entries = [] := by
  unfold emptyR; split
  · exact ⟨by simp [zeroRes, zeroPost, zeroWcc, zeroAttr, ResV.good, PostV.good, WccV.good, AttrV.good, TimeV.good], by simp [zeroRes, ResV.few], rfl, rfl⟩
  · split
    · exact ⟨by simp [zeroRes, zeroPost, zeroWcc, zeroAttr, ResV.good, PostV.good, WccV.good, AttrV.good, TimeV.good], by simp [zeroRes, ResV.few], rfl, rfl⟩
    · exact ⟨zr_good, zr_few, rfl, rfl⟩
theorem Blk.fill {w : World} {g : Nat} {A0 : Cells} (h : Blk w g A0) (l : List Value) (hA : ∀ j, (A0 j).isSome = true ↔ j < l.length) : Blk (w.setCells g 0 l) g (fun j => l[j]?) := by
  have hm : Mods (fun k => k = g) w (w.setCells g 0 l) := Mods.setCells _ rfl
  refine ⟨Nat.lt_of_lt_of_le h.lt hm.size, fun j => ?_, fun j => by rw [World.frozen?_setCells]; exact h.free j⟩
  by_cases hj : j < l.length
  · have h1 := World.cell?_setCells_in g l 0 w (fun i hi => by rw [Nat.zero_add, h.cell i]; exact (hA i).2 hi) j hj
    rw [Nat.zero_add] at h1
    rw [h1, List.getElem?_eq_getElem hj]
  · rw [World.cell?_setCells_out g l 0 w ⟨g, j, none⟩ (fun _ _ => .inr (by show 0 + l.length ≤ j; omega)), h.cell j, List.getElem?_eq_none (by omega)]
    have := mt (hA j).1 hj
    simpa using this
theorem new_fill (w : World) (z l : List Value) (t : TypeId) (hl : z.length = l.length) : Blk ((w.alloc (.cells z.toArray t)).setCells w.heap.size 0 l) w.heap.size (fun j => l[j]?) ∧
    Mods (fun _ => False) w ((w.alloc (.cells z.toArray t)).setCells w.heap.size 0 l) ∧ (w.alloc (.cells z.toArray t)).there w.heap.size 0 l.length := by
  have hb := Blk.new w z.toArray t
  refine ⟨hb.fill l fun j => ?_, (Mods.alloc _ _ _).step (Mods.setCells (F := fun k => k = w.heap.size) _ rfl) fun k hk e => absurd hk (by omega), fun j hj => ⟨?_, hb.free _⟩⟩
  · simp only [List.getElem?_toArray]
    by_cases hj : j < z.length
    · rw [List.getElem?_eq_getElem hj]; simp; omega
    · rw [List.getElem?_eq_none (by omega)]; simp; omega
  · rw [Nat.zero_add, hb.cell j]
    simp only [List.getElem?_toArray]
    rw [List.getElem?_eq_getElem (by omega)]; rfl
theorem Blk.all {w : World} {g : Nat} {l : List Value} (h : Blk w g (fun j => l[j]?)) : w.rangeAt g 0 l := fun j v hj => by rw [Nat.zero_add, h.cell j]; exact hj

theorem wpList_storeO {P : Program} {ops : Array Oper} {Q : Exit → Act → World → Prop} {rest : List Oper} {a : Act} {w : World} {o : Oper} {ty : TypeId} {x y : Operand} {b off : Nat} {l : List Value} (hw : Region.wanted o (yielded ops a.tmps) = true) (ho : o.op = .store ty x y) (hd : o.dst = none)
    (hx : a.eval x = .pointer (some ⟨b, off, none⟩)) (hy : a.eval y = .agg l.toArray) (ht : w.there b off l.length) (hi : (P.info? ty).map (·.size) = some l.length) (h1 : l.toArray.all (·.oneCell') = true)
    (h : wpList P ops Q rest a (w.setCells b off l)) : wpList P ops Q (o :: rest) a w := by
  unfold wpList
  rw [if_pos hw]
  refine .inl ?_
  unfold Oper.wp
  have hrun : (execOp a.eval o).run P w = .ok .skip (w.setCells b off l) := by
    simp only [execOp, ho, hx, hy, Sem.run_bind, run_storeAt_mid w b off ty l.toArray (by simpa using ht) (by simpa using hi) h1]
    rfl
  rw [hrun, Oper.upon_skip, hd]
  exact h
/-- Part of a struct that is stored. -/
theorem Blk.part {w : World} {g : Nat} {z : List Value} (h : Blk w g (fun j => z[j]?)) (o : Nat) (l : List Value) (hz : o + l.length ≤ z.length) : Blk (w.setCells g o l) g (fun j => (z.take o ++ (l ++ z.drop (o + l.length)))[j]?) ∧ w.there g o l.length := by
  have hm : Mods (fun k => k = g) w (w.setCells g o l) := Mods.setCells _ rfl
  have ht : w.there g o l.length := fun j hj => ⟨by rw [h.cell]; rw [List.getElem?_eq_getElem (by omega)]; rfl, h.free _⟩
  refine ⟨⟨Nat.lt_of_lt_of_le h.lt hm.size, fun j => ?_, fun j => by rw [World.frozen?_setCells]; exact h.free j⟩, ht⟩
  have htl : (z.take o).length = o := by rw [List.length_take]; omega
  by_cases h1 : j < o
  · rw [World.cell?_setCells_out g l o w ⟨g, j, none⟩ (fun _ _ => .inl h1), h.cell j, List.getElem?_append_left (by rw [htl]; exact h1), List.getElem?_take_of_lt h1]
  · rw [List.getElem?_append_right (by rw [htl]; omega), htl]
    by_cases h2 : j < o + l.length
    · have h3 := World.cell?_setCells_in g l o w (fun i hi => (ht i hi).1) (j - o) (by omega)
      rw [show o + (j - o) = j by omega] at h3
      rw [h3, List.getElem?_append_left (by omega), List.getElem?_eq_getElem (by omega)]
    · rw [World.cell?_setCells_out g l o w ⟨g, j, none⟩ (fun _ _ => .inr (by show o + l.length ≤ j; omega)), h.cell j, List.getElem?_append_right (by omega), List.getElem?_drop]
      congr 1; omega

set_option maxRecDepth 100000 in
set_option maxHeartbeats 8000000 in
theorem procs_any (p : Int) (so : Option Addr) (sc : Nat) (bs : List UInt8) (w : World) (hs : SlB w so sc bs) :
    Calls Try.prog 7 #[.int .i64 p, .slice so bs.length sc] w (Ans2 w true) := by
  have HS := hid hs
  clear hs
  go_enter Try.func7, Try.ntmps7
  go_wp2_with fail
  refine (known_any _).mono ?_
  rintro e w1 ⟨rfl, hm1⟩
  have HM1 := hid hm1
  clear hm1
  by_cases hbig : 1000 < (bs.length : Int)
  · go_wp2
    go_ret
    exact ⟨rfl, HM1.out⟩
  · have HBIG := hid hbig
    go_upto_region 5 with fail
    clear hbig
    go_cut [5] from 5 (fun v wx => v = .bool (there p) ∧ w1 = wx)
    case first =>
      have key : ∀ (b0 b1 b2 b3 : Bool), decide (0 ≤ p) = b0 → decide (p ≤ 21) = b1 → decide (100 ≤ p) = b2 → decide (p ≤ 105) = b3 → there p = ((b0 && b1) || (b2 && b3)) := by
        intro b0 b1 b2 b3 h0 h1 h2 h3
        rw [← h0, ← h1, ← h2, ← h3]; rfl
      have KEY := hid key; clear key
      obtain ⟨b0, h0⟩ : ∃ b, decide (0 ≤ p) = b := ⟨_, rfl⟩
      obtain ⟨b1, h1⟩ : ∃ b, decide (p ≤ 21) = b := ⟨_, rfl⟩
      obtain ⟨b2, h2⟩ : ∃ b, decide (100 ≤ p) = b := ⟨_, rfl⟩
      obtain ⟨b3, h3⟩ : ∃ b, decide (p ≤ 105) = b := ⟨_, rfl⟩
      have HK := hid (KEY.out b0 b1 b2 b3 h0 h1 h2 h3)
      clear KEY
      cases b0 <;> cases b1 <;> cases b2 <;> cases b3
      all_goals
        simp only [decide_eq_true_eq, decide_eq_false_iff_not] at h0 h1 h2 h3
        first
          | omega
          | (go_wp2_with fail
             go_meet
             case rel => exact ⟨by rw [HK.out]; rfl, rfl⟩)
    case rest =>
      obtain ⟨rfl, rfl⟩ := hcut
      go_upto_region 6 with fail
      obtain ⟨A1, hA1⟩ : ∃ A, A = ({ zeroArgs with type := 1 }.cells (.slice none 0 0)).toArray := ⟨_, rfl⟩
      have h36 : A1.size = 36 := by rw [hA1]; rfl
      have hone : A1.all (·.oneCell') = true := by rw [hA1]; exact cells_one _ _ _ _
      refine wp_region_list (wpList_val (v := .agg A1) rfl (by rw [hA1]; go_simp; try rfl) ?_)
      simp only [Act.put, List.setIfInBounds_toArray, List.set_cons_succ, List.set_cons_zero]
      refine wpl_valW (v := .pointer (some ⟨w1.heap.size, 0, none⟩)) (w' := w1.alloc (.cells (zeroArgs.cells (.slice none 0 0)).toArray 30)) rfl (by rw [zeros_eq]; go_simp; try rfl) ?_
      simp only [Act.put, List.setIfInBounds_toArray, List.set_cons_succ, List.set_cons_zero]
      obtain ⟨hb1, hm1, ht1⟩ := new_fill w1 (zeroArgs.cells (.slice none 0 0)) A1.toList 30 (by show 36 = A1.toList.length; rw [Array.length_toList, h36])
      rw [Array.length_toList] at ht1
      refine wpList_storeC (b := w1.heap.size) (cells := A1) rfl rfl rfl rfl rfl ht1 (by rw [h36]; kernel_rfl) hone ?_
      obtain ⟨g, hg⟩ : ∃ b, b = w1.heap.size := ⟨_, rfl⟩
      rw [← hg] at hb1 hm1 ⊢
      have HG : Hid (w.heap.size ≤ g) := by have := HM1.out.size; show _ ≤ _; omega
      generalize World.setCells _ _ _ _ = w2 at hb1 hm1 ⊢
      have HM2 := hid (HM1.out.trans hm1)
      have HB2 : Hid (Blk w2 g (cellsOf { zeroArgs with type := 1 } (.slice none 0 0))) := hb1.congr (by rw [hA1]; rfl)
      clear ht1 h36 hone hb1 hm1 hg hA1 HM1
      go_upto_if 41 with fail
      go_cut [] from 7 (fun wx => Hid (Blk wx g (cellsOf (emptyA p) (.slice none 0 0))) ∧ Hid (Mods (fun _ => False) w wx))
      case first =>
        by_cases h11 : p = 11
        · subst h11
          go_wp2_with fail
          go_meet
          case rel => exact ⟨HB2, HM2⟩
        · have hne : (p != 11) = true := by simpa using h11
          have hc : w2.cell? ⟨g, 27, none⟩ = some (.int .i64 1) := HB2.out.cell 27
          have hf := HB2.out.free 27
          have hset := hid (HB2.out.set (o := 27) (u := .int .i64 1) rfl (.int .i64 0))
          have HE : Hid (emptyA p = zeroArgs) := if_neg h11
          clear h11
          go_wp2_with fail
          go_meet
          case rel =>
            refine ⟨?_, HM2.out.step (Mods.setCell (F := fun k => k = g) (a := ⟨g, 27, none⟩) rfl _) fun k hk e => by have := HG.out; omega⟩
            rw [HE.out]
            refine hset.out.congr ?_
            funext j
            by_cases e : j = 27
            · subst e; rw [upd_at]; rfl
            · rw [upd_ne _ _ e]
              have : (zeroArgs.cells (.slice none 0 0)) = ({ zeroArgs with type := 1 }.cells (.slice none 0 0)).set 27 (.int .i64 0) := rfl
              unfold cellsOf
              rw [this, List.getElem?_set_ne (by omega)]
      case rest =>
        clear HB2 HM2 A1
        obtain ⟨HB2, HM2⟩ := hcut
        obtain ⟨w3, rfl⟩ : ∃ z, z = wc := ⟨_, rfl⟩
        obtain ⟨AA, hAA⟩ : ∃ A, A = ((emptyA p).cells (.slice none 0 0)).toArray := ⟨_, rfl⟩
        have HA36 : Hid (AA.size = 36) := by show _ = _; rw [hAA]; rfl
        have HR2 : Hid (w3.rangeAt g 0 AA.toList) := by rw [hAA]; exact Blk.all HB2.out
        have hwa := WriteArgs_any p (emptyA p) none 0 w3 (by rw [(emptyA_good p).2.2]; exact SlB.nil _) (by rw [(emptyA_good p).2.2]; exact fun k hk => absurd rfl hk.1) (emptyA_good p).1 (emptyA_good p).2.1
        rw [(emptyA_good p).2.2, List.length_nil, ← hAA] at hwa
        obtain ⟨wo, hwo⟩ : ∃ z, z = wargs p (emptyA p) (.slice none 0 0) := ⟨_, rfl⟩
        rw [← hwo] at hwa
        have HWO := hid hwo; have HAA := hid hAA; have HWA := hid hwa
        clear hAA hwa hwo
        obtain ⟨ob, oe⟩ := wo
        go_upto_region 9 with fail
        refine wp_region_list (wpList_val (v := .int .i64 p) rfl rfl ?_)
        simp only [Act.put, List.setIfInBounds_toArray, List.set_cons_succ, List.set_cons_zero]
        refine wpList_val (v := .agg AA) rfl ?_ ?_
        · show (do pure (Next.value (← Instr.loadAt 30 (.pointer (some ⟨g, 0, none⟩))))).run Try.prog _ = _
          rw [Sem.run_bind, load_args HR2.out HA36.out]; rfl
        simp only [Act.put, List.setIfInBounds_toArray, List.set_cons_succ, List.set_cons_zero]
        refine wpl_call (f := 12) (args := #[.int .i64 p, .agg AA]) (R := fun v w' => ∃ yo yc, v = .tuple #[.slice yo ob.length yc, .int .i64 oe] ∧ OwnB w' yo yc ob ∧ Mods (fun _ => False) w3 w' ∧ ob.length ≤ 1000000) rfl (by go_simp) (HWA.out.mono fun e w' h => by obtain ⟨yo, yc, he, h2, h3, _, h4⟩ := h; exact ⟨_, he, yo, yc, rfl, h2, h3, h4⟩) ?_
        rintro v w4 ⟨ao, ac, rfl, hown, hm4, hol⟩
        simp only [Act.put, List.setIfInBounds_toArray, List.set_cons_succ, List.set_cons_zero]
        have HM4 := hid (HM2.out.trans hm4)
        have HR4 := hid (rangeAt_keep HR2.out hm4 fun h => h)
        have HOA := hid hown; have HOL := hid hol
        clear hm4 hown hol HM2 HR2 HB2 HWA
        go_upto_region 10 with fail
        refine wp_region_list (wpList_val (v := .agg (zeroRes.cells (.slice none 0 0) (.slice none 0 0)).toArray) rfl (by rw [rzeros_eq]; go_simp) ?_)
        simp only [Act.put, List.setIfInBounds_toArray, List.set_cons_succ, List.set_cons_zero]
        refine wpl_valW (v := .pointer (some ⟨w4.heap.size, 0, none⟩)) (w' := w4.alloc (.cells (zeroRes.cells (.slice none 0 0) (.slice none 0 0)).toArray 42)) rfl (by rw [rzeros_eq]; go_simp) ?_
        simp only [Act.put, List.setIfInBounds_toArray, List.set_cons_succ, List.set_cons_zero]
        obtain ⟨hb1, hm1, ht1⟩ := new_fill w4 (zeroRes.cells (.slice none 0 0) (.slice none 0 0)) (zeroRes.cells (.slice none 0 0) (.slice none 0 0)) 42 rfl
        refine wpList_storeC (b := w4.heap.size) (cells := (zeroRes.cells (.slice none 0 0) (.slice none 0 0)).toArray) rfl rfl rfl rfl rfl ht1 (by kernel_rfl) (rcells_one _ _ _ _) ?_
        obtain ⟨g2, hg2⟩ : ∃ b, b = w4.heap.size := ⟨_, rfl⟩
        rw [← hg2] at hb1 hm1 ⊢
        have HG2 : Hid (w.heap.size ≤ g2 ∧ g ≠ g2) := by
          have h1 := HM4.out.size
          have h2 := World.block_lt_of_cell? w4 ⟨g, 0 + 0, none⟩ (HR4.out 0 (.string (str (emptyA p).file)) (by rw [HAA.out]; rfl))
          simp only at h2
          exact ⟨by omega, by omega⟩
        have HAO : Hid (∀ k, rb ao ob.length k → k ≠ g2) := fun k hk => by have := HOA.out.lt k hk.2; omega
        rw [List.toList_toArray]
        generalize World.setCells _ _ _ _ = w5 at hb1 hm1 ⊢
        have HM5 := hid (HM4.out.trans hm1)
        have HB5 : Hid (Blk w5 g2 (resCells zeroRes (.slice none 0 0) (.slice none 0 0))) := hb1
        have HR5 := hid (rangeAt_keep HR4.out hm1 fun h => h)
        have HOA5 := hid (HOA.out.sl.keep hm1 fun _ _ h => h)
        clear hb1 hm1 ht1 hg2 HM4 HR4 HOA
        go_upto_if 51 with fail
        go_cut [] from 10 (fun wx => Hid (Blk wx g2 (resCells (emptyR1 p) (.slice none 0 0) (.slice none 0 0))) ∧ Hid (Mods (fun k => k = g2) w5 wx))
        case first =>
          by_cases h1 : p = 1
          · subst h1
            obtain ⟨hb6, ht6⟩ := Blk.part (z := zeroRes.cells (.slice none 0 0) (.slice none 0 0)) HB5.out 1 (PostV.cells ⟨true, { zeroAttr with type := 1 }⟩) (by decide)
            have HB6 := hid hb6; have HT6 := hid ht6
            have HMM : Hid (Mods (fun k => k = g2) w5 (w5.setCells g2 1 (PostV.cells ⟨true, { zeroAttr with type := 1 }⟩))) := Mods.setCells _ rfl
            clear hb6 ht6
            go_upto_region 12 with fail
            refine wp_region_list (wpList_val (v := .agg (AttrV.cells { zeroAttr with type := 1 }).toArray) rfl (by go_simp; try rfl) ?_)
            simp only [Act.put, List.setIfInBounds_toArray, List.set_cons_succ, List.set_cons_zero]
            refine wpList_val (v := .agg (PostV.cells ⟨true, { zeroAttr with type := 1 }⟩).toArray) rfl (by go_simp; try rfl) ?_
            simp only [Act.put, List.setIfInBounds_toArray, List.set_cons_succ, List.set_cons_zero]
            refine wpList_val (v := .pointer (some ⟨g2, 1, none⟩)) rfl (by go_simp) ?_
            simp only [Act.put, List.setIfInBounds_toArray, List.set_cons_succ, List.set_cons_zero]
            refine wpList_storeO (b := g2) (off := 1) (l := PostV.cells ⟨true, { zeroAttr with type := 1 }⟩) rfl rfl rfl rfl rfl HT6.out (by kernel_rfl) (by simp [PostV.cells, AttrV.cells, TimeV.cells, Value.oneCell']) ?_
            generalize World.setCells _ _ _ _ = w6 at HB6 HMM ⊢
            simp only [wpList, Exit.then]
            refine ‹∀ (a' : Act) (w' : World), Met _ a' w' → _› _ _ ?_
            go_meet
            case rel => exact ⟨HB6, HMM⟩
          · have hn : (p == 1) = false := by simpa using h1
            have HE : Hid (emptyR1 p = zeroRes) := if_neg h1
            clear h1
            go_wp2_with fail
            go_meet
            case rel => exact ⟨by rw [HE.out]; exact HB5, Mods.refl _ _⟩
        case rest =>
          clear HB5
          obtain ⟨HB5, hm5⟩ := hcut
          obtain ⟨w6, rfl⟩ : ∃ z, z = wc := ⟨_, rfl⟩
          have HMS5 := hid hm5.out
          clear hm5
          go_upto_region 13 with fail
          obtain ⟨b31, hb31⟩ : ∃ b, b = (p == 3 || p == 101) := ⟨_, rfl⟩
          have HB31 := hid hb31
          clear hb31
          go_cut [60] from 10 (fun v wx => v = .bool b31 ∧ w6 = wx)
          case first =>
            by_cases h3 : p = 3
            · subst h3
              go_wp2_with fail
              go_meet
              case rel => exact ⟨by rw [HB31.out]; rfl, rfl⟩
            · have h3' : (p == 3) = false := by simpa using h3
              have H3 := hid h3'
              by_cases h101 : p = 101
              · subst h101
                clear h3 h3'
                go_wp2_with fail
                go_meet
                case rel => exact ⟨by rw [HB31.out]; rfl, rfl⟩
              · have h101' : (p == 101) = false := by simpa using h101
                have H101 := hid h101'
                clear h3 h101
                go_wp2_with fail
                go_meet
                case rel => exact ⟨by rw [HB31.out, H3.out, H101.out]; rfl, rfl⟩
          case rest =>
          obtain ⟨rfl, rfl⟩ := hcut
          go_upto_if 60 with fail
          go_cut [] from 10 (fun wx => Hid (Blk wx g2 (resCells (emptyR p) (.slice none 0 0) (.slice none 0 0))) ∧ Hid (Mods (fun k => k = g2) w5 wx))
          case first =>
            have hc : w6.cell? ⟨g2, 73, none⟩ = some (.bool false) := (HB5.out.cell 73).trans (by unfold emptyR1; split <;> rfl)
            have hf := HB5.out.free 73
            cases b31
            rotate_left
            · have h3 : p = 3 ∨ p = 101 := by have := HB31.out; simp at this; omega
              have hset := hid (HB5.out.set (o := 73) (u := .bool false) (by unfold emptyR1; split <;> rfl) (.bool true))
              have hmm : Mods (fun k => k = g2) w5 (w6.setCell ⟨g2, 73, none⟩ (.bool true)) := HMS5.out.trans (Mods.setCell (F := fun k => k = g2) (a := ⟨g2, 73, none⟩) rfl _)
              have HMM := hid hmm
              clear hmm
              rcases h3 with rfl | rfl
              all_goals
                go_wp2_with fail
                go_meet
                case rel =>
                  refine ⟨hset.out.congr ?_, HMM⟩
                  funext j
                  by_cases e : j = 73
                  · subst e; rw [upd_at]; rfl
                  · rw [upd_ne _ _ e]
                    unfold resCells
                    first
                      | rw [show (emptyR 3).cells (.slice none 0 0) (.slice none 0 0) = ((emptyR1 3).cells (.slice none 0 0) (.slice none 0 0)).set 73 (.bool true) from rfl, List.getElem?_set_ne (by omega)]
                      | rw [show (emptyR 101).cells (.slice none 0 0) (.slice none 0 0) = ((emptyR1 101).cells (.slice none 0 0) (.slice none 0 0)).set 73 (.bool true) from rfl, List.getElem?_set_ne (by omega)]
            · have h3 : ¬ (p = 3 ∨ p = 101) := by have := HB31.out; simp at this; omega
              have HE : Hid (emptyR p = emptyR1 p) := by show _ = _; unfold emptyR emptyR1; rw [if_neg h3]
              clear h3 hc hf
              go_wp2_with fail
              go_meet
              case rel => exact ⟨by rw [HE.out]; exact HB5, HMS5⟩
          case rest =>
            clear HB5 HMS5
            obtain ⟨HB6, HMS6⟩ := hcut
            obtain ⟨w7, rfl⟩ : ∃ z, z = wc := ⟨_, rfl⟩
            have HM7 : Hid (Mods (fun _ => False) w w7) := HM5.out.step HMS6.out fun k hk e => by have := HG2.out.1; omega
            have HR7 := hid (rangeAt_keep HR5.out HMS6.out HG2.out.2)
            have HOA7 := hid (HOA5.out.keep HMS6.out fun k hk e => HAO.out k hk e)
            obtain ⟨RR, hRR⟩ : ∃ A, A = ((emptyR p).cells (.slice none 0 0) (.slice none 0 0)).toArray := ⟨_, rfl⟩
            have HR88 : Hid (RR.size = 88) := by show _ = _; rw [hRR]; rfl
            have HQ7 : Hid (w7.rangeAt g2 0 RR.toList) := by rw [hRR]; exact Blk.all HB6.out
            have hwr := WriteRes_any p (emptyR p) none 0 w7 (by rw [(emptyR_good p).2.2.1]; exact SlB.nil _) (by rw [(emptyR_good p).2.2.1]; exact fun k hk => absurd rfl hk.1) (emptyR_good p).1 (emptyR_good p).2.1
            rw [(emptyR_good p).2.2.1, List.length_nil, ← hRR] at hwr
            obtain ⟨wo, hwo⟩ : ∃ z, z = wres p (emptyR p) (.slice none 0 0) := ⟨_, rfl⟩
            rw [← hwo] at hwr
            have HWR := hid hwo; have HRR := hid hRR; have HWC := hid hwr
            clear hRR hwr hwo HB6 HMS6 HM5 HR5 HOA5
            obtain ⟨cb, ce⟩ := wo
            go_upto_region 15 with fail
            refine wp_region_list (wpList_val (v := .int .i64 p) rfl rfl ?_)
            simp only [Act.put, List.setIfInBounds_toArray, List.set_cons_succ, List.set_cons_zero]
            refine wpList_val (v := .agg RR) rfl ?_ ?_
            · show (do pure (Next.value (← Instr.loadAt 42 (.pointer (some ⟨g2, 0, none⟩))))).run Try.prog _ = _
              rw [Sem.run_bind, load_res HQ7.out HR88.out]; rfl
            simp only [Act.put, List.setIfInBounds_toArray, List.set_cons_succ, List.set_cons_zero]
            refine wpl_call (f := 18) (args := #[.int .i64 p, .agg RR]) (R := fun v w' => ∃ yo yc, v = .tuple #[.slice yo cb.length yc, .int .i64 ce] ∧ OwnB w' yo yc cb ∧ Mods (fun _ => False) w7 w' ∧ cb.length ≤ 1000000) rfl (by go_simp) (HWC.out.mono fun e w' h => by obtain ⟨yo, yc, he, h2, h3, _, h4⟩ := h; exact ⟨_, he, yo, yc, rfl, h2, h3, h4⟩) ?_
            rintro v w8 ⟨co, cc, rfl, hown, hm8, hcl⟩
            simp only [Act.put, List.setIfInBounds_toArray, List.set_cons_succ, List.set_cons_zero]
            have HM8 := hid (HM7.out.trans hm8)
            have HR8 := hid (rangeAt_keep HR7.out hm8 fun h => h)
            have HQ8 := hid (rangeAt_keep HQ7.out hm8 fun h => h)
            have HOA8 := hid (HOA7.out.keep hm8 fun _ _ h => h)
            have HOC8 := hid hown.sl; have HCL := hid hcl
            clear hm8 hown hcl HM7 HR7 HQ7 HOA7 HWC
            cases ht : there p
            · have ht' : there p = false := ht
              have hob : ob = [] ∧ oe = 36 := by
                have h := HWO.out
                rw [wargs, if_neg (by rw [ht']; decide)] at h
                injection h with h1 h2
                exact ⟨h1, h2⟩
              have hcb : cb = [] ∧ ce = 36 := by
                have h := HWR.out
                rw [wres, if_neg (by rw [ht']; decide)] at h
                injection h with h1 h2
                exact ⟨h1, h2⟩
              obtain ⟨rfl, rfl⟩ := hob
              obtain ⟨rfl, rfl⟩ := hcb
              have hra : rargs p bs = (zeroArgs, 36) := by rw [rargs, if_neg (by rw [ht']; decide)]
              have hrr : rres p bs = (zeroRes, 36) := by rw [rres, if_neg (by rw [ht']; decide)]
              have h1 := ReadArgs_any p so sc bs w8 (HS.out.keep HM8.out fun _ _ h => h) (by have := HBIG.out; omega)
              rw [hra] at h1
              have HC1 := hid h1
              have HRR' := hid hrr
              have HTH := hid ht'
              clear h1 hra hrr ht' ht
              go_upto_region 17 with fail
              refine wp_region_list (wpList_val (v := .int .i64 p) rfl rfl ?_)
              simp only [Act.put, List.setIfInBounds_toArray, List.set_cons_succ, List.set_cons_zero]
              refine wpList_val (v := .slice so bs.length sc) rfl rfl ?_
              simp only [Act.put, List.setIfInBounds_toArray, List.set_cons_succ, List.set_cons_zero]
              refine wpl_call (f := 10) (args := #[.int .i64 p, .slice so bs.length sc]) (R := fun v w' => RAP w8 zeroArgs 36 (.returned v) w') rfl (by go_simp) (HC1.out.mono fun e w' h => by obtain ⟨yo, yc, he, h2⟩ := h; exact ⟨_, he, yo, yc, rfl, h2⟩) ?_
              rintro v w9 ⟨xso, xsc, hv, hsl, hfr, hm⟩
              obtain rfl : v = .tuple #[.agg (zeroArgs.cells (.slice xso zeroArgs.data.length xsc)).toArray, .int .i64 36] := by injection hv
              clear hv
              simp only [Act.put, List.setIfInBounds_toArray, List.set_cons_succ, List.set_cons_zero]
              obtain ⟨xA, hxA⟩ : ∃ A, A = (zeroArgs.cells (.slice xso zeroArgs.data.length xsc)).toArray := ⟨_, rfl⟩
              rw [← hxA]
              have hsz : xA.size = 36 := by rw [hxA]; rfl
              have hone : xA.all (·.oneCell') = true := by rw [hxA]; exact cells_one _ _ _ _
              refine wpList_val (v := .tuple #[.agg xA, .int .i64 36]) rfl rfl ?_
              simp only [Act.put, List.setIfInBounds_toArray, List.set_cons_succ, List.set_cons_zero]
              refine wpList_val (v := .agg xA) rfl (by go_simp) ?_
              simp only [Act.put, List.setIfInBounds_toArray, List.set_cons_succ, List.set_cons_zero]
              refine wpList_val (v := .int .i64 36) rfl (by go_simp) ?_
              simp only [Act.put, List.setIfInBounds_toArray, List.set_cons_succ, List.set_cons_zero]
              refine wpl_valW (v := .pointer (some ⟨w9.heap.size, 0, none⟩)) (w' := w9.alloc (.cells (zeroArgs.cells (.slice none 0 0)).toArray 30)) rfl (by rw [zeros_eq]; go_simp; try rfl) ?_
              simp only [Act.put, List.setIfInBounds_toArray, List.set_cons_succ, List.set_cons_zero]
              obtain ⟨hb, hms, ht1⟩ := new_fill w9 (zeroArgs.cells (.slice none 0 0)) xA.toList 30 (by show 36 = xA.toList.length; rw [Array.length_toList, hsz])
              rw [Array.length_toList] at ht1
              refine wpList_storeC (b := w9.heap.size) (cells := xA) rfl rfl rfl rfl rfl ht1 (by rw [hsz]; kernel_rfl) hone ?_
              obtain ⟨xB, hxB⟩ : ∃ b, b = w9.heap.size := ⟨_, rfl⟩
              rw [← hxB] at hb hms ⊢
              generalize World.setCells _ _ _ _ = w10 at hb hms ⊢
              refine wpList_val (v := .int .i64 36) rfl rfl ?_
              simp only [Act.put, List.setIfInBounds_toArray, List.set_cons_succ, List.set_cons_zero]
              have xM := hm.trans hms
              have xR := hid hb.all
              have xSL := hid (hsl.keep hms fun _ _ h => h)
              have xSZ := hid hsz; have xAE := hid hxA
              clear hm hms hsl hfr hb ht1 hsz hone hxA hxB
              have HM10 := hid (HM8.out.trans xM)
              clear xM HC1
              have h2 := ReadRes_any p so sc bs w10 (HS.out.keep HM10.out fun _ _ h => h) (by have := HBIG.out; omega) (fun k hk h => by
                exfalso
                have h3 := HTH.out
                rcases h with rfl | rfl <;> (subst hk; revert h3; decide))
              rw [HRR'.out] at h2
              have HC2 := hid h2
              clear h2
              go_upto_region 18 with fail
              refine wp_region_list (wpList_val (v := .int .i64 p) rfl rfl ?_)
              simp only [Act.put, List.setIfInBounds_toArray, List.set_cons_succ, List.set_cons_zero]
              refine wpList_val (v := .slice so bs.length sc) rfl rfl ?_
              simp only [Act.put, List.setIfInBounds_toArray, List.set_cons_succ, List.set_cons_zero]
              refine wpl_call (f := 19) (args := #[.int .i64 p, .slice so bs.length sc]) (R := fun v w' => RRP w10 zeroRes 36 (.returned v) w') rfl (by go_simp) (HC2.out.mono fun e w' h => by obtain ⟨yo, yc, he, h2⟩ := h; exact ⟨_, he, yo, yc, rfl, h2⟩) ?_
              rintro v w11 ⟨yso, ysc, hv, hsl, hfr, hm⟩
              obtain rfl : v = .tuple #[.agg (zeroRes.cells (.slice yso zeroRes.data.length ysc) (.slice none 0 0)).toArray, .int .i64 36] := by injection hv
              clear hv
              simp only [Act.put, List.setIfInBounds_toArray, List.set_cons_succ, List.set_cons_zero]
              obtain ⟨yA, hyA⟩ : ∃ A, A = (zeroRes.cells (.slice yso zeroRes.data.length ysc) (.slice none 0 0)).toArray := ⟨_, rfl⟩
              rw [← hyA]
              have hsz : yA.size = 88 := by rw [hyA]; rfl
              have hone : yA.all (·.oneCell') = true := by rw [hyA]; exact rcells_one _ _ _ _
              refine wpList_val (v := .tuple #[.agg yA, .int .i64 36]) rfl rfl ?_
              simp only [Act.put, List.setIfInBounds_toArray, List.set_cons_succ, List.set_cons_zero]
              refine wpList_val (v := .agg yA) rfl (by go_simp) ?_
              simp only [Act.put, List.setIfInBounds_toArray, List.set_cons_succ, List.set_cons_zero]
              refine wpList_val (v := .int .i64 36) rfl (by go_simp) ?_
              simp only [Act.put, List.setIfInBounds_toArray, List.set_cons_succ, List.set_cons_zero]
              refine wpl_valW (v := .pointer (some ⟨w11.heap.size, 0, none⟩)) (w' := w11.alloc (.cells (zeroRes.cells (.slice none 0 0) (.slice none 0 0)).toArray 42)) rfl (by rw [rzeros_eq]; go_simp) ?_
              simp only [Act.put, List.setIfInBounds_toArray, List.set_cons_succ, List.set_cons_zero]
              obtain ⟨hb, hms, ht1⟩ := new_fill w11 (zeroRes.cells (.slice none 0 0) (.slice none 0 0)) yA.toList 42 (by show 88 = yA.toList.length; rw [Array.length_toList, hsz])
              rw [Array.length_toList] at ht1
              refine wpList_storeC (b := w11.heap.size) (cells := yA) rfl rfl rfl rfl rfl ht1 (by rw [hsz]; kernel_rfl) hone ?_
              obtain ⟨yB, hyB⟩ : ∃ b, b = w11.heap.size := ⟨_, rfl⟩
              rw [← hyB] at hb hms ⊢
              generalize World.setCells _ _ _ _ = w12 at hb hms ⊢
              refine wpList_val (v := .int .i64 36) rfl rfl ?_
              simp only [Act.put, List.setIfInBounds_toArray, List.set_cons_succ, List.set_cons_zero]
              have yM := hm.trans hms
              have yR := hid hb.all
              have ySL := hid (hsl.keep hms fun _ _ h => h)
              have ySZ := hid hsz; have yAE := hid hyA
              clear hm hms hsl hfr hb ht1 hsz hone hyA hyB
              have HM12 := hid (HM10.out.trans yM)
              clear yM HC2
              go_wp2
              go_ret
              exact ⟨rfl, HM12.out⟩
            · have ht' : there p = true := ht
              obtain ⟨k, hk0, hk⟩ := there_nat ht
              have hob : ob = bytesA k := by
                have h := congrArg Prod.fst HWO.out
                rw [hk0] at h; exact h
              have hoe : oe = 0 := by
                have h := congrArg Prod.snd HWO.out
                rw [hk0] at h
                exact h.trans (procA hk).ok
              have hcb : cb = bytesR k := by
                have h := congrArg Prod.fst HWR.out
                rw [hk0] at h; exact h
              have hce : ce = 0 := by
                have h := congrArg Prod.snd HWR.out
                rw [hk0] at h
                exact h.trans (procR hk).ok
              have HRA : Hid (rargs p ob = (emptyA p, 0)) := by show _ = _; rw [hk0, hob]; exact (procA hk).back
              have HRRS : Hid (rres p cb = (emptyR p, 0)) := by show _ = _; rw [hk0, hcb]; exact (procR hk).back
              have HAL : Hid (∀ m : List UInt8, m ≠ [] → (rargs p (ob ++ m)).2 = 33) := by intro m hm; rw [hk0, hob]; exact args_long hk hm
              have HRL : Hid (∀ m : List UInt8, m ≠ [] → (rres p (cb ++ m)).2 = 15) := by intro m hm; rw [hk0, hcb]; exact res_long hk hm
              have HNL : Hid (∀ (m : List UInt8) (k' : Nat), p = (k' : Int) → NoLines k' (rFront k' (.rd (cb ++ m) 0 0 false, resCells zeroRes (.slice none 0 0) (.slice none 0 0)))) := by
                intro m k' h
                have e : k' = k := by omega
                rw [e, hcb]
                exact (procR hk).lines m
              clear HWO HWR hob hcb hk hk0 ht' ht
              subst hoe hce
              have h1 := ReadArgs_any p ao ac ob w8 HOA8.out (by have := HOL.out; omega)
              rw [HRA.out] at h1
              have HC1 := hid h1
              clear h1
              go_upto_region 20 with fail
              refine wp_region_list (wpList_val (v := .int .i64 p) rfl rfl ?_)
              simp only [Act.put, List.setIfInBounds_toArray, List.set_cons_succ, List.set_cons_zero]
              refine wpList_val (v := .slice ao ob.length ac) rfl rfl ?_
              simp only [Act.put, List.setIfInBounds_toArray, List.set_cons_succ, List.set_cons_zero]
              refine wpl_call (f := 10) (args := #[.int .i64 p, .slice ao ob.length ac]) (R := fun v w' => RAP w8 (emptyA p) 0 (.returned v) w') rfl (by go_simp) (HC1.out.mono fun e w' h => by obtain ⟨yo, yc, he, h2⟩ := h; exact ⟨_, he, yo, yc, rfl, h2⟩) ?_
              rintro v w9 ⟨xso, xsc, hv, hsl, hfr, hm⟩
              obtain rfl : v = .tuple #[.agg ((emptyA p).cells (.slice xso (emptyA p).data.length xsc)).toArray, .int .i64 0] := by injection hv
              clear hv
              simp only [Act.put, List.setIfInBounds_toArray, List.set_cons_succ, List.set_cons_zero]
              obtain ⟨xA, hxA⟩ : ∃ A, A = ((emptyA p).cells (.slice xso (emptyA p).data.length xsc)).toArray := ⟨_, rfl⟩
              rw [← hxA]
              have hsz : xA.size = 36 := by rw [hxA]; rfl
              have hone : xA.all (·.oneCell') = true := by rw [hxA]; exact cells_one _ _ _ _
              refine wpList_val (v := .tuple #[.agg xA, .int .i64 0]) rfl rfl ?_
              simp only [Act.put, List.setIfInBounds_toArray, List.set_cons_succ, List.set_cons_zero]
              refine wpList_val (v := .agg xA) rfl (by go_simp) ?_
              simp only [Act.put, List.setIfInBounds_toArray, List.set_cons_succ, List.set_cons_zero]
              refine wpList_val (v := .int .i64 0) rfl (by go_simp) ?_
              simp only [Act.put, List.setIfInBounds_toArray, List.set_cons_succ, List.set_cons_zero]
              refine wpl_valW (v := .pointer (some ⟨w9.heap.size, 0, none⟩)) (w' := w9.alloc (.cells (zeroArgs.cells (.slice none 0 0)).toArray 30)) rfl (by rw [zeros_eq]; go_simp; try rfl) ?_
              simp only [Act.put, List.setIfInBounds_toArray, List.set_cons_succ, List.set_cons_zero]
              obtain ⟨hb, hms, ht1⟩ := new_fill w9 (zeroArgs.cells (.slice none 0 0)) xA.toList 30 (by show 36 = xA.toList.length; rw [Array.length_toList, hsz])
              rw [Array.length_toList] at ht1
              refine wpList_storeC (b := w9.heap.size) (cells := xA) rfl rfl rfl rfl rfl ht1 (by rw [hsz]; kernel_rfl) hone ?_
              obtain ⟨xB, hxB⟩ : ∃ b, b = w9.heap.size := ⟨_, rfl⟩
              rw [← hxB] at hb hms ⊢
              generalize World.setCells _ _ _ _ = w10 at hb hms ⊢
              refine wpList_val (v := .int .i64 0) rfl rfl ?_
              simp only [Act.put, List.setIfInBounds_toArray, List.set_cons_succ, List.set_cons_zero]
              have xM := hm.trans hms
              have xR := hid hb.all
              have xSL := hid (hsl.keep hms fun _ _ h => h)
              have xSZ := hid hsz; have xAE := hid hxA
              clear hm hms hsl hfr hb ht1 hsz hone hxA hxB
              have HM10 := hid (HM8.out.trans xM)
              have HR10 := hid (rangeAt_keep HR8.out xM fun h => h)
              have HQ10 := hid (rangeAt_keep HQ8.out xM fun h => h)
              have HOA10 := hid (HOA8.out.keep xM fun _ _ h => h)
              have HOC10 := hid (HOC8.out.keep xM fun _ _ h => h)
              clear xM HC1 HM8 HR8 HQ8 HOA8 HOC8 HRA
              have h2 := ReadRes_any p co cc cb w10 HOC10.out (by have := HCL.out; omega) (fun k h => by have := HNL.out [] k h; rwa [List.append_nil] at this)
              rw [HRRS.out] at h2
              have HC2 := hid h2
              clear h2
              go_upto_region 21 with fail
              refine wp_region_list (wpList_val (v := .int .i64 p) rfl rfl ?_)
              simp only [Act.put, List.setIfInBounds_toArray, List.set_cons_succ, List.set_cons_zero]
              refine wpList_val (v := .slice co cb.length cc) rfl rfl ?_
              simp only [Act.put, List.setIfInBounds_toArray, List.set_cons_succ, List.set_cons_zero]
              refine wpl_call (f := 19) (args := #[.int .i64 p, .slice co cb.length cc]) (R := fun v w' => RRP w10 (emptyR p) 0 (.returned v) w') rfl (by go_simp) (HC2.out.mono fun e w' h => by obtain ⟨yo, yc, he, h2⟩ := h; exact ⟨_, he, yo, yc, rfl, h2⟩) ?_
              rintro v w11 ⟨yso, ysc, hv, hsl, hfr, hm⟩
              obtain rfl : v = .tuple #[.agg ((emptyR p).cells (.slice yso (emptyR p).data.length ysc) (.slice none 0 0)).toArray, .int .i64 0] := by injection hv
              clear hv
              simp only [Act.put, List.setIfInBounds_toArray, List.set_cons_succ, List.set_cons_zero]
              obtain ⟨yA, hyA⟩ : ∃ A, A = ((emptyR p).cells (.slice yso (emptyR p).data.length ysc) (.slice none 0 0)).toArray := ⟨_, rfl⟩
              rw [← hyA]
              have hsz : yA.size = 88 := by rw [hyA]; rfl
              have hone : yA.all (·.oneCell') = true := by rw [hyA]; exact rcells_one _ _ _ _
              refine wpList_val (v := .tuple #[.agg yA, .int .i64 0]) rfl rfl ?_
              simp only [Act.put, List.setIfInBounds_toArray, List.set_cons_succ, List.set_cons_zero]
              refine wpList_val (v := .agg yA) rfl (by go_simp) ?_
              simp only [Act.put, List.setIfInBounds_toArray, List.set_cons_succ, List.set_cons_zero]
              refine wpList_val (v := .int .i64 0) rfl (by go_simp) ?_
              simp only [Act.put, List.setIfInBounds_toArray, List.set_cons_succ, List.set_cons_zero]
              refine wpl_valW (v := .pointer (some ⟨w11.heap.size, 0, none⟩)) (w' := w11.alloc (.cells (zeroRes.cells (.slice none 0 0) (.slice none 0 0)).toArray 42)) rfl (by rw [rzeros_eq]; go_simp) ?_
              simp only [Act.put, List.setIfInBounds_toArray, List.set_cons_succ, List.set_cons_zero]
              obtain ⟨hb, hms, ht1⟩ := new_fill w11 (zeroRes.cells (.slice none 0 0) (.slice none 0 0)) yA.toList 42 (by show 88 = yA.toList.length; rw [Array.length_toList, hsz])
              rw [Array.length_toList] at ht1
              refine wpList_storeC (b := w11.heap.size) (cells := yA) rfl rfl rfl rfl rfl ht1 (by rw [hsz]; kernel_rfl) hone ?_
              obtain ⟨yB, hyB⟩ : ∃ b, b = w11.heap.size := ⟨_, rfl⟩
              rw [← hyB] at hb hms ⊢
              generalize World.setCells _ _ _ _ = w12 at hb hms ⊢
              refine wpList_val (v := .int .i64 0) rfl rfl ?_
              simp only [Act.put, List.setIfInBounds_toArray, List.set_cons_succ, List.set_cons_zero]
              have yM := hm.trans hms
              have yR := hid hb.all
              have ySL := hid (hsl.keep hms fun _ _ h => h)
              have ySZ := hid hsz; have yAE := hid hyA
              clear hm hms hsl hfr hb ht1 hsz hone hyA hyB
              have HM12 := hid (HM10.out.trans yM)
              have HR12 := hid (rangeAt_keep HR10.out yM fun h => h)
              have HQ12 := hid (rangeAt_keep HQ10.out yM fun h => h)
              have HOA12 := hid (HOA10.out.keep yM fun _ _ h => h)
              have HOC12 := hid (HOC10.out.keep yM fun _ _ h => h)
              have xR12 := hid (rangeAt_keep xR.out yM fun h => h)
              have xSL12 := hid (xSL.out.keep yM fun _ _ h => h)
              clear yM HC2 HM10 HR10 HQ10 HOA10 HOC10 xR xSL HRRS
              go_upto_region 22 with fail
              refine wp_region_list (wpList_val (v := .int .i64 0) rfl rfl ?_)
              simp only [Act.put, List.setIfInBounds_toArray, List.set_cons_succ, List.set_cons_zero]
              refine wpList_val (v := .bool false) rfl (by go_simp) ?_
              simp only [Act.put, List.setIfInBounds_toArray, List.set_cons_succ, List.set_cons_zero]
              refine wpList_val (v := .bool false) rfl rfl ?_
              simp only [Act.put, List.setIfInBounds_toArray, List.set_cons_succ, List.set_cons_zero]
              refine wpList_val (v := .int .i64 0) rfl rfl ?_
              simp only [Act.put, List.setIfInBounds_toArray, List.set_cons_succ, List.set_cons_zero]
              refine wpList_val (v := .bool false) rfl (by go_simp) ?_
              simp only [Act.put, List.setIfInBounds_toArray, List.set_cons_succ, List.set_cons_zero]
              refine wpList_val (v := .bool false) rfl (by go_simp) ?_
              simp only [Act.put, List.setIfInBounds_toArray, List.set_cons_succ, List.set_cons_zero]
              refine wpList_val (v := .bool false) rfl rfl ?_
              simp only [Act.put, List.setIfInBounds_toArray, List.set_cons_succ, List.set_cons_zero]
              refine wpList_val (v := .int .i64 0) rfl rfl ?_
              simp only [Act.put, List.setIfInBounds_toArray, List.set_cons_succ, List.set_cons_zero]
              refine wpList_val (v := .bool false) rfl (by go_simp) ?_
              simp only [Act.put, List.setIfInBounds_toArray, List.set_cons_succ, List.set_cons_zero]
              refine wpList_val (v := .bool false) rfl (by go_simp) ?_
              simp only [Act.put, List.setIfInBounds_toArray, List.set_cons_succ, List.set_cons_zero]
              refine wpList_val (v := .bool false) rfl rfl ?_
              simp only [Act.put, List.setIfInBounds_toArray, List.set_cons_succ, List.set_cons_zero]
              refine wpList_val (v := .int .i64 0) rfl rfl ?_
              simp only [Act.put, List.setIfInBounds_toArray, List.set_cons_succ, List.set_cons_zero]
              refine wpList_val (v := .bool false) rfl (by go_simp) ?_
              simp only [Act.put, List.setIfInBounds_toArray, List.set_cons_succ, List.set_cons_zero]
              refine wpList_val (v := .bool false) rfl (by go_simp) ?_
              simp only [Act.put, List.setIfInBounds_toArray, List.set_cons_succ, List.set_cons_zero]
              refine wpList_val (v := .bool false) rfl rfl ?_
              simp only [Act.put, List.setIfInBounds_toArray, List.set_cons_succ, List.set_cons_zero]
              refine wpList_val (v := .agg xA) rfl ?_ ?_
              · show (do pure (Next.value (← Instr.loadAt 30 (.pointer (some ⟨xB, 0, none⟩))))).run Try.prog _ = _
                rw [Sem.run_bind, load_args xR12.out xSZ.out]; rfl
              simp only [Act.put, List.setIfInBounds_toArray, List.set_cons_succ, List.set_cons_zero]
              refine wpList_val (v := .agg AA) rfl ?_ ?_
              · show (do pure (Next.value (← Instr.loadAt 30 (.pointer (some ⟨g, 0, none⟩))))).run Try.prog _ = _
                rw [Sem.run_bind, load_args HR12.out HA36.out]; rfl
              simp only [Act.put, List.setIfInBounds_toArray, List.set_cons_succ, List.set_cons_zero]
              have hsame := nfsxSameArgs_any (emptyA p) (emptyA p) xso none xsc 0 w12 xSL12.out (by rw [(emptyA_good p).2.2]; exact SlB.nil _) (by rw [(emptyA_good p).2.2]; decide) (by rw [(emptyA_good p).2.2]; decide)
              have e1 : (Value.slice none (emptyA p).data.length 0) = .slice none 0 0 := by rw [(emptyA_good p).2.2]; rfl
              rw [e1, ← HAA.out, ← xAE.out, eqb_self] at hsame
              clear e1
              refine wpl_call (f := 15) (args := #[.agg xA, .agg AA]) (R := fun v w' => v = .bool true ∧ Mods (fun _ => False) w12 w') rfl (by go_simp) (hsame.mono fun e w' h => ⟨_, h.1, rfl, h.2⟩) ?_
              rintro v w13 ⟨rfl, hm⟩
              simp only [Act.put, List.setIfInBounds_toArray, List.set_cons_succ, List.set_cons_zero]
              have HM13 := hid (HM12.out.trans hm)
              have HQ13 := hid (rangeAt_keep HQ12.out hm fun h => h)
              have HOA13 := hid (HOA12.out.keep hm fun _ _ h => h)
              have HOC13 := hid (HOC12.out.keep hm fun _ _ h => h)
              have yR13 := hid (rangeAt_keep yR.out hm fun h => h)
              have ySL13 := hid (ySL.out.keep hm fun _ _ h => h)
              clear hm hsame HM12 HQ12 HOA12 HOC12 yR ySL HR12 xR12 xSL12
              refine wpList_val (v := .bool false) rfl (by go_simp) ?_
              simp only [Act.put, List.setIfInBounds_toArray, List.set_cons_succ, List.set_cons_zero]
              refine wpList_val (v := .bool false) rfl (by go_simp) ?_
              simp only [Act.put, List.setIfInBounds_toArray, List.set_cons_succ, List.set_cons_zero]
              refine wpList_val (v := .bool false) rfl rfl ?_
              simp only [Act.put, List.setIfInBounds_toArray, List.set_cons_succ, List.set_cons_zero]
              refine wpList_val (v := .agg yA) rfl ?_ ?_
              · show (do pure (Next.value (← Instr.loadAt 42 (.pointer (some ⟨yB, 0, none⟩))))).run Try.prog _ = _
                rw [Sem.run_bind, load_res yR13.out ySZ.out]; rfl
              simp only [Act.put, List.setIfInBounds_toArray, List.set_cons_succ, List.set_cons_zero]
              refine wpList_val (v := .agg RR) rfl ?_ ?_
              · show (do pure (Next.value (← Instr.loadAt 42 (.pointer (some ⟨g2, 0, none⟩))))).run Try.prog _ = _
                rw [Sem.run_bind, load_res HQ13.out HR88.out]; rfl
              simp only [Act.put, List.setIfInBounds_toArray, List.set_cons_succ, List.set_cons_zero]
              have hsame := nfsxSameRes_any (emptyR p) (emptyR p) yso none ysc 0 w13 ySL13.out (by rw [(emptyR_good p).2.2.1]; exact SlB.nil _) none none 0 0 (by rw [(emptyR_good p).2.2.2]; exact Sl.nil _ _) (by rw [(emptyR_good p).2.2.2]; exact Sl.nil _ _) (by rw [(emptyR_good p).2.2.1]; decide) (by rw [(emptyR_good p).2.2.1]; decide) (by rw [(emptyR_good p).2.2.2]; decide) (by rw [(emptyR_good p).2.2.2]; decide)
              have e1 : (Value.slice none (emptyR p).data.length 0) = .slice none 0 0 := by rw [(emptyR_good p).2.2.1]; rfl
              have e2 : (Value.slice none (emptyR p).entries.length 0) = .slice none 0 0 := by rw [(emptyR_good p).2.2.2]; rfl
              rw [e1, e2, ← HRR.out, ← yAE.out, eqb_self] at hsame
              clear e1 e2
              refine wpl_call (f := 16) (args := #[.agg yA, .agg RR]) (R := fun v w' => v = .bool true ∧ Mods (fun _ => False) w13 w') rfl (by go_simp) (hsame.mono fun e w' h => ⟨_, h.1, rfl, h.2⟩) ?_
              rintro v w14 ⟨rfl, hm⟩
              simp only [Act.put, List.setIfInBounds_toArray, List.set_cons_succ, List.set_cons_zero]
              have HM14 := hid (HM13.out.trans hm)
              have HOA14 := hid (HOA13.out.keep hm fun _ _ h => h)
              have HOC14 := hid (HOC13.out.keep hm fun _ _ h => h)
              clear hm hsame HM13 HQ13 HOA13 HOC13 yR13 ySL13
              refine wpList_val (v := .bool false) rfl (by go_simp) ?_
              simp only [Act.put, List.setIfInBounds_toArray, List.set_cons_succ, List.set_cons_zero]
              refine wpList_val (v := .bool false) rfl (by go_simp) ?_
              simp only [Act.put, List.setIfInBounds_toArray, List.set_cons_succ, List.set_cons_zero]
              by_cases hbs : bs = []
              · subst hbs
                go_wp2
                go_ret
                exact ⟨rfl, HM14.out⟩
              have HBS := hid hbs
              have hl : ((bs.length : Int) == 0) = false := by rw [beq_eq_false_iff_ne]; have := List.length_pos_iff.2 hbs; omega
              clear hbs
              go_upto_region 26 with fail
              clear hl
              refine wp_region_list (wpList_val (v := .int .i64 p) rfl rfl ?_)
              simp only [Act.put, List.setIfInBounds_toArray, List.set_cons_succ, List.set_cons_zero]
              refine wpl_valW (v := .slice (some ⟨w14.heap.size, 0, none⟩) 0 0) (w' := w14.alloc (.cells #[] 5)) rfl (by go_simp) ?_
              simp only [Act.put, List.setIfInBounds_toArray, List.set_cons_succ, List.set_cons_zero]
              refine wpList_val (v := .slice ao ob.length ac) rfl rfl ?_
              simp only [Act.put, List.setIfInBounds_toArray, List.set_cons_succ, List.set_cons_zero]
              refine wpList_appB _ rfl _ _ rfl _ _ _ [] rfl rfl (OwnB.empty _) _ _ _ ob rfl rfl (HOA14.out.alloc _) (by have := HOL.out; simp; omega) ?_
              intro ao1 ac1 cs1 w15 hcs hown hg
              simp only [Act.put, List.setIfInBounds_toArray, List.set_cons_succ, List.set_cons_zero]
              have hmA : Mods (fun _ => False) w14 w15 := (Mods.alloc _ _ _).step hg.mods fun k hk h => by cases h; simp at hk
              refine wpList_val (v := .slice so bs.length sc) rfl rfl ?_
              simp only [Act.put, List.setIfInBounds_toArray, List.set_cons_succ, List.set_cons_zero]
              have e1 : cs1 = ob := hcs.out
              refine wpList_appB _ rfl _ _ rfl _ _ _ cs1 rfl rfl hown _ _ _ bs rfl rfl (HS.out.keep (HM14.out.trans hmA) fun _ _ h => h) (by have := HOL.out; have := HBIG.out; rw [e1]; omega) ?_
              intro ao2 ac2 cs2 w16 hcs2 hown2 hg2'
              simp only [Act.put, List.setIfInBounds_toArray, List.set_cons_succ, List.set_cons_zero]
              have hmB : Mods (fun _ => False) w14 w16 := (Mods.alloc _ _ _).step (hg.trans hg2').mods fun k hk h => by cases h; simp at hk
              have e2 : cs2 = ob ++ bs := by rw [hcs2.out, e1]
              subst e2
              clear hcs hcs2 e1 hown hg hg2' hmA
              have h1 := ReadArgs_any p ao2 ac2 (ob ++ bs) w16 hown2.sl (by have := HOL.out; have := HBIG.out; rw [List.length_append]; omega)
              have h2 : (rargs p (ob ++ bs)).2 = 33 := HAL.out bs HBS.out
              obtain ⟨res, hres⟩ : ∃ z, z = rargs p (ob ++ bs) := ⟨_, rfl⟩
              rw [← hres] at h1 h2
              obtain ⟨ra, rn⟩ := res
              obtain rfl : rn = 33 := h2
              clear hres
              refine wpl_call (f := 10) (args := #[.int .i64 p, .slice ao2 (ob ++ bs).length ac2]) (R := fun v w' => RAP w16 ra 33 (.returned v) w') rfl (by go_simp) (h1.mono fun e w' h => by obtain ⟨yo, yc, he, h2⟩ := h; exact ⟨_, he, yo, yc, rfl, h2⟩) ?_
              rintro v w17 ⟨zo, zc, hv, hsl, hfr, hm⟩
              obtain rfl : v = .tuple #[.agg (ra.cells (.slice zo ra.data.length zc)).toArray, .int .i64 33] := by injection hv
              clear hv
              simp only [Act.put, List.setIfInBounds_toArray, List.set_cons_succ, List.set_cons_zero]
              generalize (ra.cells (.slice zo ra.data.length zc)).toArray = zA
              refine wpList_val (v := .tuple #[.agg zA, .int .i64 33]) rfl rfl ?_
              simp only [Act.put, List.setIfInBounds_toArray, List.set_cons_succ, List.set_cons_zero]
              refine wpList_val (v := .agg zA) rfl (by go_simp) ?_
              simp only [Act.put, List.setIfInBounds_toArray, List.set_cons_succ, List.set_cons_zero]
              refine wpList_val (v := .int .i64 33) rfl (by go_simp) ?_
              simp only [Act.put, List.setIfInBounds_toArray, List.set_cons_succ, List.set_cons_zero]
              refine wpList_val (v := .int .i64 33) rfl rfl ?_
              simp only [Act.put, List.setIfInBounds_toArray, List.set_cons_succ, List.set_cons_zero]
              have HM17 := hid (HM14.out.trans (hmB.trans hm))
              have HOC17 := hid (HOC14.out.keep (hmB.trans hm) fun _ _ h => h)
              clear hsl hfr hm hmB h1 hown2 HM14 HOA14 HOC14
              go_upto_region 27 with fail
              refine wp_region_list (wpList_val (v := .int .i64 p) rfl rfl ?_)
              simp only [Act.put, List.setIfInBounds_toArray, List.set_cons_succ, List.set_cons_zero]
              refine wpl_valW (v := .slice (some ⟨w17.heap.size, 0, none⟩) 0 0) (w' := w17.alloc (.cells #[] 5)) rfl (by go_simp) ?_
              simp only [Act.put, List.setIfInBounds_toArray, List.set_cons_succ, List.set_cons_zero]
              refine wpList_val (v := .slice co cb.length cc) rfl rfl ?_
              simp only [Act.put, List.setIfInBounds_toArray, List.set_cons_succ, List.set_cons_zero]
              refine wpList_appB _ rfl _ _ rfl _ _ _ [] rfl rfl (OwnB.empty _) _ _ _ cb rfl rfl (HOC17.out.alloc _) (by have := HCL.out; simp; omega) ?_
              intro ao1 ac1 cs1 w15 hcs hown hg
              simp only [Act.put, List.setIfInBounds_toArray, List.set_cons_succ, List.set_cons_zero]
              have hmA : Mods (fun _ => False) w17 w15 := (Mods.alloc _ _ _).step hg.mods fun k hk h => by cases h; simp at hk
              refine wpList_val (v := .slice so bs.length sc) rfl rfl ?_
              simp only [Act.put, List.setIfInBounds_toArray, List.set_cons_succ, List.set_cons_zero]
              have e1 : cs1 = cb := hcs.out
              refine wpList_appB _ rfl _ _ rfl _ _ _ cs1 rfl rfl hown _ _ _ bs rfl rfl (HS.out.keep (HM17.out.trans hmA) fun _ _ h => h) (by have := HCL.out; have := HBIG.out; rw [e1]; omega) ?_
              intro ao2 ac2 cs2 w16 hcs2 hown2 hg2'
              simp only [Act.put, List.setIfInBounds_toArray, List.set_cons_succ, List.set_cons_zero]
              have hmB : Mods (fun _ => False) w17 w16 := (Mods.alloc _ _ _).step (hg.trans hg2').mods fun k hk h => by cases h; simp at hk
              have e2 : cs2 = cb ++ bs := by rw [hcs2.out, e1]
              subst e2
              clear hcs hcs2 e1 hown hg hg2' hmA
              have h1 := ReadRes_any p ao2 ac2 (cb ++ bs) w16 hown2.sl (by have := HCL.out; have := HBIG.out; rw [List.length_append]; omega) (fun k h => HNL.out bs k h)
              have h2 : (rres p (cb ++ bs)).2 = 15 := HRL.out bs HBS.out
              obtain ⟨res, hres⟩ : ∃ z, z = rres p (cb ++ bs) := ⟨_, rfl⟩
              rw [← hres] at h1 h2
              obtain ⟨ra, rn⟩ := res
              obtain rfl : rn = 15 := h2
              clear hres
              refine wpl_call (f := 19) (args := #[.int .i64 p, .slice ao2 (cb ++ bs).length ac2]) (R := fun v w' => RRP w16 ra 15 (.returned v) w') rfl (by go_simp) (h1.mono fun e w' h => by obtain ⟨yo, yc, he, h2⟩ := h; exact ⟨_, he, yo, yc, rfl, h2⟩) ?_
              rintro v w18 ⟨zo, zc, hv, hsl, hfr, hm⟩
              obtain rfl : v = .tuple #[.agg (ra.cells (.slice zo ra.data.length zc) (.slice none 0 0)).toArray, .int .i64 15] := by injection hv
              clear hv
              simp only [Act.put, List.setIfInBounds_toArray, List.set_cons_succ, List.set_cons_zero]
              generalize (ra.cells (.slice zo ra.data.length zc) (.slice none 0 0)).toArray = zA
              refine wpList_val (v := .tuple #[.agg zA, .int .i64 15]) rfl rfl ?_
              simp only [Act.put, List.setIfInBounds_toArray, List.set_cons_succ, List.set_cons_zero]
              refine wpList_val (v := .agg zA) rfl (by go_simp) ?_
              simp only [Act.put, List.setIfInBounds_toArray, List.set_cons_succ, List.set_cons_zero]
              refine wpList_val (v := .int .i64 15) rfl (by go_simp) ?_
              simp only [Act.put, List.setIfInBounds_toArray, List.set_cons_succ, List.set_cons_zero]
              refine wpList_val (v := .int .i64 15) rfl rfl ?_
              simp only [Act.put, List.setIfInBounds_toArray, List.set_cons_succ, List.set_cons_zero]
              have HM18 := hid (HM17.out.trans (hmB.trans hm))
              clear hsl hfr hm hmB h1 hown2 HM17 HOC17
              go_wp2
              go_ret
              exact ⟨rfl, HM18.out⟩


/-! ### The row -/
open Go.ChangeShapes Go.WideShapes Go.ChangeAt Go.RowKit

set_option maxRecDepth 100000 in
theorem procs_lifted (os : Os) (started : os.Started) (H : Type) (enc : TypeId × Value → H) :
    ReturnsInHanded {} Try.checked os 7 .any (Rows.nfsxProcsSpec.pre6 enc Try.prog Try.f7 Rows.nfsxProcsRow.domain false) (Rows.nfsxProcsSpec.post enc Try.prog Try.f7 false true false false) := by
  refine returnsInHanded_of_change (C := Try.checked) Try.own started (by kernel_rfl) Try.func7
    (ChangeSpec.witness6 (enc := enc) (C := Try.checked) false ⟨#[], #[.int .i64 0, .slice none 0 0], []⟩ 8 (by kernel_rfl) (by kernel_rfl) (by kernel_rfl) (by kernel_rfl)) ?_
  intro W base args ds gs before hval0 hW hcnd _
  have hval : ∀ (j : Nat) t v, Try.f7.params[j]? = some t → args[j]? = some v → Value.okWide Try.prog W .any base t v := hval0
  have hW' := hW
  obtain ⟨p, q, hA0, hV, rfl, hfz, hnd⟩ := hW
  have hA : DataW.TrodAll enc Try.prog W 0 (fun _ => true) true Try.f7.params.toList args.toList ds p := hA0
  rw [Try.params7] at hA hval
  obtain ⟨v0, v1, d0, d1, p0, p1, rfl, rfl, rfl, h0, h1⟩ := trodAll_two hA
  obtain ⟨rfl, rfl⟩ := trodVars_none hV
  simp only [List.append_nil] at hW'
  have h0k := h0
  have h1k := h1
  have hlt0 : ∀ x ∈ p0, x.block < W.heap.size := fun x hx => hW'.lt x (by simp [hx])
  have hlt1 : ∀ x ∈ p1, x.block < W.heap.size := fun x hx => hW'.lt x (by simp [hx])
  obtain ⟨k, rfl⟩ := okWide_int Try.underlying3 (hval 0 3 v0 rfl rfl)
  obtain ⟨so, sl, sc, rfl⟩ := okWide_slice Try.underlying22 (hval 1 22 v1 rfl rfl)
  obtain ⟨_, hf1⟩ := h1
  obtain ⟨so', sc', bs, e1, sb, lb, _⟩ := open_bytes Try.underlying22 Try.underlying5 (by kernel_rfl) hf1 hlt1
  have e1' : Value.slice so sl sc = .slice so' bs.length sc' := by
    have h := e1
    simp only [Value.cells] at h
    exact List.singleton_inj.1 h
  rw [e1']
  clear hA0 hval0
  refine (procs_any k so' sc' bs W sb).mono fun e W' ⟨he, hm⟩ => ?_
  have hw : Below W.heap.size W W' := hm.below (fun _ _ h => h) (Nat.le_refl _)
  subst he
  rw [← e1']
  refine ⟨_, rfl, law_post rfl rfl hW' rfl rfl rfl ?_ hw⟩
  exact trodAll_mk2 (Below.trod Try.laidOut (by kernel_rfl) (of_decide_eq_true (by kernel_rfl)) h0k hw hlt0) (Below.trod Try.laidOut (by kernel_rfl) (of_decide_eq_true (by kernel_rfl)) h1k hw hlt1)

theorem nfsxProcs_holds : Rows.NfsxProcsSaid :=
  OpenClaim.holds_of_wide 7 Try.f7 rfl rfl rfl rfl rfl rfl rfl ⟨rfl, rfl, rfl, rfl, rfl⟩ rfl rfl rfl rfl rfl (by kernel_rfl) Try.func7 (by kernel_rfl)
    (of_decide_eq_true (by kernel_rfl)) (by unfold Func.isWrapper; first | (rw [if_pos (by decide +kernel)]; kernel_rfl) | (rw [if_neg (by decide +kernel)]; exact ⟨rfl, rfl⟩))
    (fun os started H enc _ => procs_lifted os started H enc)

#print axioms nfsxProcs_holds
end Go.Proofs.Ytanknjpcgceccaa
