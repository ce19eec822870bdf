/- slices.Equal on the lines of a directory. -/
import Derived.Test.YtanknjpcgceccaaSameN
namespace Go.Proofs.Ytanknjpcgceccaa
open Go.RowKit

/-- A slice of lines that is read. -/
def SlE (w : World) (ao : Option Addr) (cap : Nat) (l : List EntryV) : Prop := Sl w 20 ao l.length cap (l.flatMap EntryV.cells)
theorem EntryV.cells_length (e : EntryV) : e.cells.length = 20 := rfl
theorem flat_at (l : List EntryV) : ∀ (k j : Nat) (hk : k < l.length), j < 20 → (l.flatMap EntryV.cells)[k * 20 + j]? = l[k].cells[j]? := by
  induction l with
  | nil => intro k j hk; simp at hk
  | cons e l ih =>
    intro k j hk hj
    rw [List.flatMap_cons]
    cases k with
    | zero =>
      rw [List.getElem?_append_left (by rw [EntryV.cells_length]; omega)]
      simp
    | succ k =>
      rw [List.getElem?_append_right (by rw [EntryV.cells_length]; omega), EntryV.cells_length, show (k + 1) * 20 + j - 20 = k * 20 + j by omega]
      have := ih k j (by simpa using hk) hj
      simpa using this
theorem SlE.at {w : World} {ao : Option Addr} {cap : Nat} {l : List EntryV} (h : SlE w ao cap l) {k : Nat} (hk : k < l.length) :
    ∃ b o, ao = some ⟨b, o, none⟩ ∧ w.rangeAt b (o + k * 20) l[k].cells := by
  have hne : l.flatMap EntryV.cells ≠ [] := by
    intro e
    have := flat_at l k 0 hk (by decide)
    rw [e] at this
    have h0 : l[k].cells[0]? = some (.int .u64 l[k].fileid) := rfl
    rw [h0] at this
    simp at this
  obtain ⟨b, o, rfl, hc⟩ := Sl.form h hne
  refine ⟨b, o, rfl, fun j v hj => ?_⟩
  have hj20 : j < 20 := (List.getElem?_eq_some_iff.1 hj).1
  rw [Nat.add_assoc]
  exact hc _ _ (by rw [flat_at l k j hk hj20]; exact hj)
theorem SlE.keep {w w' : World} {ao : Option Addr} {cap : Nat} {l : List EntryV} (h : SlE w ao cap l) {F : Nat → Prop} (hm : Mods F w w') (hF : ∀ k, rb ao l.length k → ¬ F k) : SlE w' ao cap l := Sl.keep h hm hF

theorem q_val {P : Program} {ops : Array Oper} {C : World → Prop} {Q : Act → Prop} {rest : List Oper} {a : Act} {o : Oper} {v : Value} (hw : Region.wanted o (yielded ops a.tmps) = true)
    (hr : ∀ w, C w → (execOp a.eval o).run P w = .ok (.value v) w) (h : wpQuiet P ops C Q rest (a.put o.dst v)) : wpQuiet P ops C Q (o :: rest) a := by
  unfold wpQuiet
  rw [if_pos hw]
  exact ⟨v, fun w hC => by unfold Oper.quietAt; rw [hr w hC]; exact ⟨rfl, rfl⟩, h⟩
theorem q_load {P : Program} {ops : Array Oper} {C : World → Prop} {Q : Act → Prop} {rest : List Oper} {a : Act} {o : Oper} {v : Value} {ty : TypeId} {x : Operand} {p : Value} (hw : Region.wanted o (yielded ops a.tmps) = true) (ho : o.op = .load ty x) (hx : a.eval x = p)
    (hl : ∀ w, C w → (Instr.loadAt ty p).run P w = .ok v w) (h : wpQuiet P ops C Q rest (a.put o.dst v)) : wpQuiet P ops C Q (o :: rest) a :=
  q_val hw (fun w hC => by simp only [execOp, ho, hx, Sem.run_bind, hl w hC]; rfl) h
theorem q_bin {P : Program} {ops : Array Oper} {C : World → Prop} {Q : Act → Prop} {rest : List Oper} {a : Act} {o : Oper} {v u1 u2 : Value} {op : BinOp} {t t' : TypeId} {x y : Nat} (hw : Region.wanted o (yielded ops a.tmps) = true) (ho : o.op = .binOp op t (.tmp x) (.tmp y) t') (hx : a.eval (.tmp x) = u1) (hy : a.eval (.tmp y) = u2)
    (hl : ∀ w, C w → (do eqGuard op t (.tmp x) (.tmp y) u1 u2; binOp op t u1 u2).run P w = .ok v w) (h : wpQuiet P ops C Q rest (a.put o.dst v)) : wpQuiet P ops C Q (o :: rest) a :=
  q_val hw (fun w hC => by
    have : execOp a.eval o = (do pure (.value (← (do eqGuard op t (.tmp x) (.tmp y) u1 u2; binOp op t u1 u2)))) := by simp only [execOp, ho, hx, hy]
    rw [this, Sem.run_bind, hl w hC]; rfl) h

set_option maxRecDepth 100000 in
set_option maxHeartbeats 1000000 in
theorem EqualE_any (ao : Option Addr) (ac : Nat) (xs : List EntryV) (bo : Option Addr) (bc : Nat) (bs : List EntryV) (w : World) (ha : SlE w ao ac xs) (hb : SlE w bo bc bs) (hla : xs.length ≤ 9223372036854775807) (hlb : bs.length ≤ 9223372036854775807) :
    Calls Try.prog 47 #[.slice ao xs.length ac, .slice bo bs.length bc] w fun e w' => e = .returned (.bool (eqb xs bs)) ∧ Quiet w w' := by
  have HA := hid ha; have HB := hid hb; clear ha hb
  by_cases hne : xs.length = bs.length
  · have hne2 : (xs.length : Int) = (bs.length : Int) := by omega
    go_enter Try.func47, Try.ntmps47
    go_wp2
    go_loopw [13] (fun i wr => ∃ (k : Nat), k ≤ xs.length ∧ i = .int .i64 (k : Int) ∧ Quiet w wr ∧ xs.take k = bs.take k) (fun i _ => xs.length - (intOf i).toNat)
    case atStart => exact ⟨0, by omega, by go_num, Quiet.refl _, by simp⟩
    case round =>
      obtain ⟨k, hk, rfl, hq, ht⟩ := hrel
      have HQ := hid hq; have HT := hid ht; clear hq ht
      by_cases hlt : k < xs.length
      · have hlb2 : k < bs.length := by omega
        obtain ⟨b1, o1, rfl, hc1⟩ := (HA.out.keep (Quiet.mods (w := w) (w' := wr) HQ.out (fun _ => False)) (fun _ _ h => h)).at hlt
        obtain ⟨b2, o2, rfl, hc2⟩ := (HB.out.keep (Quiet.mods (w := w) (w' := wr) HQ.out (fun _ => False)) (fun _ _ h => h)).at hlb2
        obtain ⟨x, hx⟩ : ∃ x, x = xs[k] := ⟨_, rfl⟩
        obtain ⟨y, hy⟩ : ∃ y, y = bs[k] := ⟨_, rfl⟩
        rw [← hx] at hc1
        rw [← hy] at hc2
        have HX := hid hx; have HY := hid hy; clear hx hy
        have hl1 := fun n => load_EntryV (wr.drewN n) b1 (o1 + k * 20) x (rangeAt_keep hc1 (Mods.drewN (fun _ => False) wr n) (fun h => h))
        have hl2 := fun n => load_EntryV (wr.drewN n) b2 (o2 + k * 20) y (rangeAt_keep hc2 (Mods.drewN (fun _ => False) wr n) (fun h => h))
        have HL1 := hid hl1
        have HL2 := hid hl2
        have hn := hid (fun w p q => neq_EntryV w p q x y)
        clear hc1 hc2 hl1 hl2
        by_cases hxy : x = y
        · have he : (!eqb x y) = false := by rw [eqb_iff.2 hxy]; rfl
          have hnt := hid (take_grow hlt hlb2 HT.out (by rw [← HX.out, ← HY.out, hxy]))
          clear hxy
          go_wp2_with fail
          refine wp_region_quiet_lit (by kernel_rfl) (by kernel_rfl) ?_
          repeat (go_big_quiet_step (fail))
          refine q_load rfl rfl rfl (by rintro _ ⟨n, rfl⟩; exact HL1.out n) ?_
          simp only [Act.put, List.setIfInBounds_toArray, List.set_cons_succ, List.set_cons_zero]
          repeat (go_big_quiet_step (fail))
          refine q_load rfl rfl rfl (by rintro _ ⟨n, rfl⟩; exact HL2.out n) ?_
          simp only [Act.put, List.setIfInBounds_toArray, List.set_cons_succ, List.set_cons_zero]
          refine q_bin rfl rfl rfl rfl (fun w _ => hn.out w _ _) ?_
          simp only [Act.put, List.setIfInBounds_toArray, List.set_cons_succ, List.set_cons_zero]
          rw [he]
          refine wpQuiet_nil ?_
          rintro _ ⟨nq, rfl⟩
          clear he
          have hq2 := hid (Quiet.trans (a := w) (b := wr) HQ.out ⟨nq, rfl⟩)
          clear HL1 HL2 hn
          go_wp2
          go_roundw
          case rel => exact ⟨k + 1, by omega, by go_num, hq2.out, hnt.out⟩
          case measure => simp [intOf]; omega
        · have he : (!eqb x y) = true := by rw [eqb_ne hxy]; rfl
          have hno : Hid (xs ≠ bs) := fun e => hxy (by rw [HX.out, HY.out]; simp [e])
          clear hxy
          go_wp2_with fail
          refine wp_region_quiet_lit (by kernel_rfl) (by kernel_rfl) ?_
          repeat (go_big_quiet_step (fail))
          refine q_load rfl rfl rfl (by rintro _ ⟨n, rfl⟩; exact HL1.out n) ?_
          simp only [Act.put, List.setIfInBounds_toArray, List.set_cons_succ, List.set_cons_zero]
          repeat (go_big_quiet_step (fail))
          refine q_load rfl rfl rfl (by rintro _ ⟨n, rfl⟩; exact HL2.out n) ?_
          simp only [Act.put, List.setIfInBounds_toArray, List.set_cons_succ, List.set_cons_zero]
          refine q_bin rfl rfl rfl rfl (fun w _ => hn.out w _ _) ?_
          simp only [Act.put, List.setIfInBounds_toArray, List.set_cons_succ, List.set_cons_zero]
          rw [he]
          refine wpQuiet_nil ?_
          rintro _ ⟨nq, rfl⟩
          clear he
          have hq2 := hid (Quiet.trans (a := w) (b := wr) HQ.out ⟨nq, rfl⟩)
          clear HL1 HL2 hn
          go_wp2
          go_ret
          exact ⟨by rw [eqb_ne hno.out]; rfl, hq2.out⟩
      · have hyes : Hid (xs = bs) := hid (by
          have h := HT.out
          rwa [List.take_of_length_le (by omega), List.take_of_length_le (by omega)] at h)
        go_wp2
        go_ret
        exact ⟨by rw [hyes.out, eqb_self]; rfl, HQ.out⟩
  · have hne2 : ¬ ((xs.length : Int) = (bs.length : Int)) := by omega
    have hno : Hid (xs ≠ bs) := fun e => hne (by rw [e])
    go_enter Try.func47, Try.ntmps47
    go_wp2
    go_ret
    exact ⟨by rw [eqb_ne hno.out]; rfl, Quiet.refl _⟩

end Go.Proofs.Ytanknjpcgceccaa
