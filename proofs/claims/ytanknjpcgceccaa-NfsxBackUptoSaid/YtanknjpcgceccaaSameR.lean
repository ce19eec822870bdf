/- slices.Equal on the lines of a directory. -/
import Derived.Test.YtanknjpcgceccaaSameAN
namespace Go.Proofs.Ytanknjpcgceccaa
open Go.RowKit

/-- A slice of lines that is read. -/
def SlE (w : World) (ao : Option Addr) (cap : Nat) (l : List EntryV) : Prop := Sl w 20 ao l.length cap (l.flatMap EntryV.cells)
theorem EntryV.cells_length (e : EntryV) : e.cells.length = 20 := rfl
theorem flat_at (l : List EntryV) : ∀ (k j : Nat) (hk : k < l.length), j < 20 → (l.flatMap EntryV.cells)[k * 20 + j]? = l[k].cells[j]? := by
  induction l with
  | nil => intro k j hk; simp at hk
  | cons e l ih =>
    intro k j hk hj
    rw [List.flatMap_cons]
    cases k with
    | zero =>
      rw [List.getElem?_append_left (by rw [EntryV.cells_length]; omega)]
      simp
    | succ k =>
      rw [List.getElem?_append_right (by rw [EntryV.cells_length]; omega), EntryV.cells_length, show (k + 1) * 20 + j - 20 = k * 20 + j by omega]
      have := ih k j (by simpa using hk) hj
      simpa using this
theorem SlE.at {w : World} {ao : Option Addr} {cap : Nat} {l : List EntryV} (h : SlE w ao cap l) {k : Nat} (hk : k < l.length) :
    ∃ b o, ao = some ⟨b, o, none⟩ ∧ w.rangeAt b (o + k * 20) l[k].cells := by
  have hne : l.flatMap EntryV.cells ≠ [] := by
    intro e
    have := flat_at l k 0 hk (by decide)
    rw [e] at this
    have h0 : l[k].cells[0]? = some (.int .u64 l[k].fileid) := rfl
    rw [h0] at this
    simp at this
  obtain ⟨b, o, rfl, hc⟩ := Sl.form h hne
  refine ⟨b, o, rfl, fun j v hj => ?_⟩
  have hj20 : j < 20 := (List.getElem?_eq_some_iff.1 hj).1
  rw [Nat.add_assoc]
  exact hc _ _ (by rw [flat_at l k j hk hj20]; exact hj)
theorem SlE.keep {w w' : World} {ao : Option Addr} {cap : Nat} {l : List EntryV} (h : SlE w ao cap l) {F : Nat → Prop} (hm : Mods F w w') (hF : ∀ k, rb ao l.length k → ¬ F k) : SlE w' ao cap l := Sl.keep h hm hF

theorem q_val {P : Program} {ops : Array Oper} {C : World → Prop} {Q : Act → Prop} {rest : List Oper} {a : Act} {o : Oper} {v : Value} (hw : Region.wanted o (yielded ops a.tmps) = true)
    (hr : ∀ w, C w → (execOp a.eval o).run P w = .ok (.value v) w) (h : wpQuiet P ops C Q rest (a.put o.dst v)) : wpQuiet P ops C Q (o :: rest) a := by
  unfold wpQuiet
  rw [if_pos hw]
  exact ⟨v, fun w hC => by unfold Oper.quietAt; rw [hr w hC]; exact ⟨rfl, rfl⟩, h⟩
theorem q_load {P : Program} {ops : Array Oper} {C : World → Prop} {Q : Act → Prop} {rest : List Oper} {a : Act} {o : Oper} {v : Value} {ty : TypeId} {x : Operand} {p : Value} (hw : Region.wanted o (yielded ops a.tmps) = true) (ho : o.op = .load ty x) (hx : a.eval x = p)
    (hl : ∀ w, C w → (Instr.loadAt ty p).run P w = .ok v w) (h : wpQuiet P ops C Q rest (a.put o.dst v)) : wpQuiet P ops C Q (o :: rest) a :=
  q_val hw (fun w hC => by simp only [execOp, ho, hx, Sem.run_bind, hl w hC]; rfl) h
theorem q_bin {P : Program} {ops : Array Oper} {C : World → Prop} {Q : Act → Prop} {rest : List Oper} {a : Act} {o : Oper} {v u1 u2 : Value} {op : BinOp} {t t' : TypeId} {x y : Nat} (hw : Region.wanted o (yielded ops a.tmps) = true) (ho : o.op = .binOp op t (.tmp x) (.tmp y) t') (hx : a.eval (.tmp x) = u1) (hy : a.eval (.tmp y) = u2)
    (hl : ∀ w, C w → (do eqGuard op t (.tmp x) (.tmp y) u1 u2; binOp op t u1 u2).run P w = .ok v w) (h : wpQuiet P ops C Q rest (a.put o.dst v)) : wpQuiet P ops C Q (o :: rest) a :=
  q_val hw (fun w hC => by
    have : execOp a.eval o = (do pure (.value (← (do eqGuard op t (.tmp x) (.tmp y) u1 u2; binOp op t u1 u2)))) := by simp only [execOp, ho, hx, hy]
    rw [this, Sem.run_bind, hl w hC]; rfl) h

set_option maxRecDepth 100000 in
set_option maxHeartbeats 1000000 in
theorem EqualE_any (ao : Option Addr) (ac : Nat) (xs : List EntryV) (bo : Option Addr) (bc : Nat) (bs : List EntryV) (w : World) (ha : SlE w ao ac xs) (hb : SlE w bo bc bs) (hla : xs.length ≤ 9223372036854775807) (hlb : bs.length ≤ 9223372036854775807) :
    Calls Try.prog 47 #[.slice ao xs.length ac, .slice bo bs.length bc] w fun e w' => e = .returned (.bool (eqb xs bs)) ∧ Quiet w w' := by
  have HA := hid ha; have HB := hid hb; clear ha hb
  by_cases hne : xs.length = bs.length
  · have hne2 : (xs.length : Int) = (bs.length : Int) := by omega
    go_enter Try.func47, Try.ntmps47
    go_wp2
    go_loopw [13] (fun i wr => ∃ (k : Nat), k ≤ xs.length ∧ i = .int .i64 (k : Int) ∧ Quiet w wr ∧ xs.take k = bs.take k) (fun i _ => xs.length - (intOf i).toNat)
    case atStart => exact ⟨0, by omega, by go_num, Quiet.refl _, by simp⟩
    case round =>
      obtain ⟨k, hk, rfl, hq, ht⟩ := hrel
      have HQ := hid hq; have HT := hid ht; clear hq ht
      by_cases hlt : k < xs.length
      · have hlb2 : k < bs.length := by omega
        obtain ⟨b1, o1, rfl, hc1⟩ := (HA.out.keep (Quiet.mods (w := w) (w' := wr) HQ.out (fun _ => False)) (fun _ _ h => h)).at hlt
        obtain ⟨b2, o2, rfl, hc2⟩ := (HB.out.keep (Quiet.mods (w := w) (w' := wr) HQ.out (fun _ => False)) (fun _ _ h => h)).at hlb2
        obtain ⟨x, hx⟩ : ∃ x, x = xs[k] := ⟨_, rfl⟩
        obtain ⟨y, hy⟩ : ∃ y, y = bs[k] := ⟨_, rfl⟩
        rw [← hx] at hc1
        rw [← hy] at hc2
        have HX := hid hx; have HY := hid hy; clear hx hy
        have hl1 := fun n => load_EntryV (wr.drewN n) b1 (o1 + k * 20) x (rangeAt_keep hc1 (Mods.drewN (fun _ => False) wr n) (fun h => h))
        have hl2 := fun n => load_EntryV (wr.drewN n) b2 (o2 + k * 20) y (rangeAt_keep hc2 (Mods.drewN (fun _ => False) wr n) (fun h => h))
        have HL1 := hid hl1
        have HL2 := hid hl2
        have hn := hid (fun w p q => neq_EntryV w p q x y)
        clear hc1 hc2 hl1 hl2
        by_cases hxy : x = y
        · have he : (!eqb x y) = false := by rw [eqb_iff.2 hxy]; rfl
          have hnt := hid (take_grow hlt hlb2 HT.out (by rw [← HX.out, ← HY.out, hxy]))
          clear hxy
          go_wp2_with fail
          refine wp_region_quiet_lit (by kernel_rfl) (by kernel_rfl) ?_
          repeat (go_big_quiet_step (fail))
          refine q_load rfl rfl rfl (by rintro _ ⟨n, rfl⟩; exact HL1.out n) ?_
          simp only [Act.put, List.setIfInBounds_toArray, List.set_cons_succ, List.set_cons_zero]
          repeat (go_big_quiet_step (fail))
          refine q_load rfl rfl rfl (by rintro _ ⟨n, rfl⟩; exact HL2.out n) ?_
          simp only [Act.put, List.setIfInBounds_toArray, List.set_cons_succ, List.set_cons_zero]
          refine q_bin rfl rfl rfl rfl (fun w _ => hn.out w _ _) ?_
          simp only [Act.put, List.setIfInBounds_toArray, List.set_cons_succ, List.set_cons_zero]
          rw [he]
          refine wpQuiet_nil ?_
          rintro _ ⟨nq, rfl⟩
          clear he
          have hq2 := hid (Quiet.trans (a := w) (b := wr) HQ.out ⟨nq, rfl⟩)
          clear HL1 HL2 hn
          go_wp2
          go_roundw
          case rel => exact ⟨k + 1, by omega, by go_num, hq2.out, hnt.out⟩
          case measure => simp [intOf]; omega
        · have he : (!eqb x y) = true := by rw [eqb_ne hxy]; rfl
          have hno : Hid (xs ≠ bs) := fun e => hxy (by rw [HX.out, HY.out]; simp [e])
          clear hxy
          go_wp2_with fail
          refine wp_region_quiet_lit (by kernel_rfl) (by kernel_rfl) ?_
          repeat (go_big_quiet_step (fail))
          refine q_load rfl rfl rfl (by rintro _ ⟨n, rfl⟩; exact HL1.out n) ?_
          simp only [Act.put, List.setIfInBounds_toArray, List.set_cons_succ, List.set_cons_zero]
          repeat (go_big_quiet_step (fail))
          refine q_load rfl rfl rfl (by rintro _ ⟨n, rfl⟩; exact HL2.out n) ?_
          simp only [Act.put, List.setIfInBounds_toArray, List.set_cons_succ, List.set_cons_zero]
          refine q_bin rfl rfl rfl rfl (fun w _ => hn.out w _ _) ?_
          simp only [Act.put, List.setIfInBounds_toArray, List.set_cons_succ, List.set_cons_zero]
          rw [he]
          refine wpQuiet_nil ?_
          rintro _ ⟨nq, rfl⟩
          clear he
          have hq2 := hid (Quiet.trans (a := w) (b := wr) HQ.out ⟨nq, rfl⟩)
          clear HL1 HL2 hn
          go_wp2
          go_ret
          exact ⟨by rw [eqb_ne hno.out]; rfl, hq2.out⟩
      · have hyes : Hid (xs = bs) := hid (by
          have h := HT.out
          rwa [List.take_of_length_le (by omega), List.take_of_length_le (by omega)] at h)
        go_wp2
        go_ret
        exact ⟨by rw [hyes.out, eqb_self]; rfl, HQ.out⟩
  · have hne2 : ¬ ((xs.length : Int) = (bs.length : Int)) := by omega
    have hno : Hid (xs ≠ bs) := fun e => hne (by rw [e])
    go_enter Try.func47, Try.ntmps47
    go_wp2
    go_ret
    exact ⟨by rw [eqb_ne hno.out]; rfl, Quiet.refl _⟩

end Go.Proofs.Ytanknjpcgceccaa

/- nfsx.SameRes: it tells whether two results are the same. (Printed by wip/tools/gen_same4.py.) -/
namespace Go.Proofs.Ytanknjpcgceccaa
open Go.RowKit

theorem ResV.eqb_all (x y : ResV) : eqb x y = true ↔ (x.status = y.status ∧ x.obj = y.obj ∧ x.dir = y.dir ∧ x.before = y.before ∧ x.toBefore = y.toBefore ∧ x.after = y.after ∧ x.toAfter = y.toAfter ∧ x.hasHandle = y.hasHandle ∧ x.handle = y.handle ∧ x.access = y.access ∧ x.path = y.path ∧ x.count = y.count ∧ x.eof = y.eof ∧ x.data = y.data ∧ x.committed = y.committed ∧ x.verf = y.verf ∧ x.cookieVerf = y.cookieVerf ∧ x.entries = y.entries ∧ x.bytes = y.bytes ∧ x.freeBytes = y.freeBytes ∧ x.files = y.files ∧ x.freeFiles = y.freeFiles) := by
  rw [eqb_iff]; cases x; cases y; simp

section
variable {a : Act} {w : World} {d : Nat} {x1 x2 : Nat} {v1 v2 : Value} {ts : Array TypeId} {y : TypeId} {s : String} {e : Array Edge} {g : Option (Nat × Bool)}
theorem run_callB (h1 : a.tmps[x1]? = some v1) (h2 : a.tmps[x2]? = some v2) :
    (execOp a.eval ⟨some d, .call { callee := .value (.func 46), args := #[.tmp x1, .tmp x2], argTypes := ts }, y, s, e, g⟩).run Try.prog w = .ok (.enter 46 #[v1, v2]) w := by
  have h0 : a.eval (.func 46) = .func (.func 46) #[] #[] := rfl
  go_simp
theorem run_callE (h1 : a.tmps[x1]? = some v1) (h2 : a.tmps[x2]? = some v2) :
    (execOp a.eval ⟨some d, .call { callee := .value (.func 47), args := #[.tmp x1, .tmp x2], argTypes := ts }, y, s, e, g⟩).run Try.prog w = .ok (.enter 47 #[v1, v2]) w := by
  have h0 : a.eval (.func 47) = .func (.func 47) #[] #[] := rfl
  go_simp
end

set_option maxRecDepth 100000 in
set_option maxHeartbeats 4000000 in
theorem nfsxSameRes_any (x y : ResV) (xo yo : Option Addr) (xc yc : Nat) (w : World) (hx : SlB w xo xc x.data) (hy : SlB w yo yc y.data)
    (xe ye : Option Addr) (xec yec : Nat) (hex : SlE w xe xec x.entries) (hey : SlE w ye yec y.entries)
    (hlx : x.data.length ≤ 9223372036854775807) (hly : y.data.length ≤ 9223372036854775807) (hlex : x.entries.length ≤ 9223372036854775807) (hley : y.entries.length ≤ 9223372036854775807) :
    Calls Try.prog 16 #[.agg (x.cells (.slice xo x.data.length xc) (.slice xe x.entries.length xec)).toArray, .agg (y.cells (.slice yo y.data.length yc) (.slice ye y.entries.length yec)).toArray] w fun e w' => e = .returned (.bool (eqb x y)) ∧ Mods (fun _ => False) w w' := by
  have HX0 := hid hx; have HY0 := hid hy; have HEX0 := hid hex; have HEY0 := hid hey; clear hx hy hex hey
  have HL := hid (And.intro hlx (And.intro hly (And.intro hlex hley))); clear hlx hly hlex hley
  obtain ⟨A, hAe⟩ : ∃ A, A = (x.cells (.slice xo x.data.length xc) (.slice xe x.entries.length xec)).toArray := ⟨_, rfl⟩
  obtain ⟨B, hBe⟩ : ∃ B, B = (y.cells (.slice yo y.data.length yc) (.slice ye y.entries.length yec)).toArray := ⟨_, rfl⟩
  rw [← hAe, ← hBe]
  have HA := hid hAe; have HB := hid hBe
  clear hAe hBe
  go_enter Try.func16, Try.ntmps16
  go_upto_region 1 with fail
  refine wp_region_list ?_
  have hA0 : ((w.alloc (.cells A 42)).alloc (.cells B 42)).rangeAt w.heap.size 0 A.toList := rangeAt_keep (by have h := rangeAt_new w A.toList 42; simpa using h) (Mods.alloc (fun _ => False) _ _) (fun h => h)
  have hB0 : ((w.alloc (.cells A 42)).alloc (.cells B 42)).rangeAt (w.heap.size + 1) 0 B.toList := by
    have h := rangeAt_new (w.alloc (.cells A 42)) B.toList 42
    simpa using h
  have hm : Mods (fun _ => False) w ((w.alloc (.cells A 42)).alloc (.cells B 42)) := (Mods.alloc _ _ _).trans (Mods.alloc _ _ _)
  generalize (w.alloc (.cells A 42)).alloc (.cells B 42) = w1 at hA0 hB0 hm ⊢
  have HX := hid (HX0.out.keep hm fun _ _ h => h)
  have HY := hid (HY0.out.keep hm fun _ _ h => h)
  have HEX := hid (HEX0.out.keep hm fun _ _ h => h)
  have HEY := hid (HEY0.out.keep hm fun _ _ h => h)
  rw [HA.out, List.toList_toArray] at hA0
  rw [HB.out, List.toList_toArray] at hB0
  clear HX0 HY0 HEX0 HEY0
  have hI : ∀ a : Act, a.tmps.size = 157 ∧ a.defers = [] ∧ a.tmps[2]? = some (.pointer (some ⟨w.heap.size, 0, none⟩)) ∧ a.tmps[3]? = some (.pointer (some ⟨w.heap.size + 1, 0, none⟩)) ∧ a.tmps[4]? = some (.bool false) →
      Inv a 157 2 3 (.pointer (some ⟨w.heap.size, 0, none⟩)) (.pointer (some ⟨w.heap.size + 1, 0, none⟩)) 4 false := fun a ⟨h1, h2, h3, h4, h5⟩ => ⟨h1, h2, h3, h4, h5⟩
  generalize ga : (Act.mk _ _) = a0
  have hI := hI a0 (by rw [← ga]; exact ⟨rfl, rfl, rfl, rfl, rfl⟩)
  clear ga
  generalize w.heap.size = g at hI hA0 hB0
  refine ch_first (p1 := .pointer (some ⟨g, 0, none⟩)) (p2 := .pointer (some ⟨(g + 1), 0, none⟩)) hI (by go_simp) (load_stat w1 g 0 _ (rangeAt_sub hA0 1 _ rfl)) (by go_simp) (load_stat w1 (g + 1) 0 _ (rangeAt_sub hB0 1 _ rfl)) (eql_stat w1 _ _ x.status y.status) (by decide) (by decide) fun a hI => ?_
  refine ch_link (isAnd := true) (p1 := .pointer (some ⟨g, 1, none⟩)) (p2 := .pointer (some ⟨(g + 1), 1, none⟩)) hI rfl (by go_simp) (load_PostV w1 g 1 x.obj (rangeAt_sub hA0 15 _ rfl)) (by go_simp) (load_PostV w1 (g + 1) 1 y.obj (rangeAt_sub hB0 15 _ rfl)) (eql_PostV w1 _ _ x.obj y.obj) rfl rfl rfl (.inl rfl) (by decide) (by decide) fun a hI => ?_
  refine ch_link (isAnd := true) (p1 := .pointer (some ⟨g, 16, none⟩)) (p2 := .pointer (some ⟨(g + 1), 16, none⟩)) hI rfl (by go_simp) (load_PostV w1 g 16 x.dir (rangeAt_sub hA0 15 _ rfl)) (by go_simp) (load_PostV w1 (g + 1) 16 y.dir (rangeAt_sub hB0 15 _ rfl)) (eql_PostV w1 _ _ x.dir y.dir) rfl rfl rfl (.inl rfl) (by decide) (by decide) fun a hI => ?_
  refine ch_link (isAnd := true) (p1 := .pointer (some ⟨g, 31, none⟩)) (p2 := .pointer (some ⟨(g + 1), 31, none⟩)) hI rfl (by go_simp) (load_WccV w1 g 31 x.before (rangeAt_sub hA0 6 _ rfl)) (by go_simp) (load_WccV w1 (g + 1) 31 y.before (rangeAt_sub hB0 6 _ rfl)) (eql_WccV w1 _ _ x.before y.before) rfl rfl rfl (.inl rfl) (by decide) (by decide) fun a hI => ?_
  refine ch_link (isAnd := true) (p1 := .pointer (some ⟨g, 37, none⟩)) (p2 := .pointer (some ⟨(g + 1), 37, none⟩)) hI rfl (by go_simp) (load_WccV w1 g 37 x.toBefore (rangeAt_sub hA0 6 _ rfl)) (by go_simp) (load_WccV w1 (g + 1) 37 y.toBefore (rangeAt_sub hB0 6 _ rfl)) (eql_WccV w1 _ _ x.toBefore y.toBefore) rfl rfl rfl (.inl rfl) (by decide) (by decide) fun a hI => ?_
  refine ch_link (isAnd := true) (p1 := .pointer (some ⟨g, 43, none⟩)) (p2 := .pointer (some ⟨(g + 1), 43, none⟩)) hI rfl (by go_simp) (load_PostV w1 g 43 x.after (rangeAt_sub hA0 15 _ rfl)) (by go_simp) (load_PostV w1 (g + 1) 43 y.after (rangeAt_sub hB0 15 _ rfl)) (eql_PostV w1 _ _ x.after y.after) rfl rfl rfl (.inl rfl) (by decide) (by decide) fun a hI => ?_
  refine ch_link (isAnd := true) (p1 := .pointer (some ⟨g, 58, none⟩)) (p2 := .pointer (some ⟨(g + 1), 58, none⟩)) hI rfl (by go_simp) (load_PostV w1 g 58 x.toAfter (rangeAt_sub hA0 15 _ rfl)) (by go_simp) (load_PostV w1 (g + 1) 58 y.toAfter (rangeAt_sub hB0 15 _ rfl)) (eql_PostV w1 _ _ x.toAfter y.toAfter) rfl rfl rfl (.inl rfl) (by decide) (by decide) fun a hI => ?_
  refine ch_link (isAnd := true) (p1 := .pointer (some ⟨g, 73, none⟩)) (p2 := .pointer (some ⟨(g + 1), 73, none⟩)) hI rfl (by go_simp) (load_bool w1 g 73 _ (rangeAt_sub hA0 1 _ rfl)) (by go_simp) (load_bool w1 (g + 1) 73 _ (rangeAt_sub hB0 1 _ rfl)) (eql_bool w1 _ _ x.hasHandle y.hasHandle) rfl rfl rfl (.inl rfl) (by decide) (by decide) fun a hI => ?_
  refine ch_link (isAnd := true) (p1 := .pointer (some ⟨g, 74, none⟩)) (p2 := .pointer (some ⟨(g + 1), 74, none⟩)) hI rfl (by go_simp) (load_str w1 g 74 _ (rangeAt_sub hA0 1 _ rfl)) (by go_simp) (load_str w1 (g + 1) 74 _ (rangeAt_sub hB0 1 _ rfl)) (eql_str w1 _ _ x.handle y.handle) rfl rfl rfl (.inl rfl) (by decide) (by decide) fun a hI => ?_
  refine ch_link (isAnd := true) (p1 := .pointer (some ⟨g, 75, none⟩)) (p2 := .pointer (some ⟨(g + 1), 75, none⟩)) hI rfl (by go_simp) (load_u32 w1 g 75 _ (rangeAt_sub hA0 1 _ rfl)) (by go_simp) (load_u32 w1 (g + 1) 75 _ (rangeAt_sub hB0 1 _ rfl)) (eql_u32 w1 _ _ x.access y.access) rfl rfl rfl (.inl rfl) (by decide) (by decide) fun a hI => ?_
  refine ch_link (isAnd := true) (p1 := .pointer (some ⟨g, 76, none⟩)) (p2 := .pointer (some ⟨(g + 1), 76, none⟩)) hI rfl (by go_simp) (load_str w1 g 76 _ (rangeAt_sub hA0 1 _ rfl)) (by go_simp) (load_str w1 (g + 1) 76 _ (rangeAt_sub hB0 1 _ rfl)) (eql_str w1 _ _ x.path y.path) rfl rfl rfl (.inl rfl) (by decide) (by decide) fun a hI => ?_
  refine ch_link (isAnd := true) (p1 := .pointer (some ⟨g, 77, none⟩)) (p2 := .pointer (some ⟨(g + 1), 77, none⟩)) hI rfl (by go_simp) (load_u32 w1 g 77 _ (rangeAt_sub hA0 1 _ rfl)) (by go_simp) (load_u32 w1 (g + 1) 77 _ (rangeAt_sub hB0 1 _ rfl)) (eql_u32 w1 _ _ x.count y.count) rfl rfl rfl (.inl rfl) (by decide) (by decide) fun a hI => ?_
  refine ch_link (isAnd := true) (p1 := .pointer (some ⟨g, 78, none⟩)) (p2 := .pointer (some ⟨(g + 1), 78, none⟩)) hI rfl (by go_simp) (load_bool w1 g 78 _ (rangeAt_sub hA0 1 _ rfl)) (by go_simp) (load_bool w1 (g + 1) 78 _ (rangeAt_sub hB0 1 _ rfl)) (eql_bool w1 _ _ x.eof y.eof) rfl rfl rfl (.inl rfl) (by decide) (by decide) fun a hI => ?_
  refine ch_linkG (isAnd := true) [_, _, _, _, _] (fun w' => Quiet w1 w') (b := eqb x.data y.data) hI rfl (Quiet.refl _) (by
    intro o ho
    simp only [List.mem_cons, List.not_mem_nil, or_false] at ho
    rcases ho with rfl | rfl | rfl | rfl | rfl <;> exact ⟨rfl, _, rfl, by decide⟩) rfl rfl rfl (.inl rfl) (by decide) (fun hg K hK hK2 => ?_) (fun a w2 hq hI => ?_)
  · refine ch_load (p1 := .pointer (some ⟨g, 79, none⟩)) hI hI.hp hg (by go_simp) (load_bytes w1 g 79 _ (rangeAt_sub hA0 1 _ rfl)) (by decide) fun a1 hI1 hv1 _ => ?_
    refine ch_load (p1 := .pointer (some ⟨(g + 1), 79, none⟩)) hI1 hI1.hq hg (by go_simp) (load_bytes w1 (g + 1) 79 _ (rangeAt_sub hB0 1 _ rfl)) (by decide) fun a2 hI2 hv2 hk2 => ?_
    have hv1' := hk2 _ _ (by decide) (by decide) hv1
    refine ch_call (v := .bool (eqb x.data y.data)) (R := fun w' => Quiet w1 w') hI2 hg rfl rfl (run_callB hv1' hv2) ((EqualB_any _ _ _ _ _ _ w1 HX.out HY.out HL.out.1 HL.out.2.1).mono fun e w' ⟨he, hq⟩ => ⟨by rw [he, eqb_of (a := x.data) (b := y.data) (c := decide (x.data = y.data)) (by simp)], hq⟩) (by decide) fun a3 w3 hq3 hI3 hv3 => ?_
    exact hK2 _ _ (hK _ _ hq3 hI3 hv3)
  have hqm : Mods (fun _ => False) w1 w2 := Quiet.mods hq _
  replace hA0 := rangeAt_keep hA0 hqm (fun h => h)
  replace hB0 := rangeAt_keep hB0 hqm (fun h => h)
  replace HX := hid (HX.out.keep hqm fun _ _ h => h)
  replace HY := hid (HY.out.keep hqm fun _ _ h => h)
  replace HEX := hid (HEX.out.keep hqm fun _ _ h => h)
  replace HEY := hid (HEY.out.keep hqm fun _ _ h => h)
  replace hm := hm.trans hqm
  clear hqm hq
  refine ch_link (isAnd := true) (p1 := .pointer (some ⟨g, 80, none⟩)) (p2 := .pointer (some ⟨(g + 1), 80, none⟩)) hI rfl (by go_simp) (load_int w2 g 80 _ (rangeAt_sub hA0 1 _ rfl)) (by go_simp) (load_int w2 (g + 1) 80 _ (rangeAt_sub hB0 1 _ rfl)) (eql_int w2 _ _ x.committed y.committed) rfl rfl rfl (.inl rfl) (by decide) (by decide) fun a hI => ?_
  refine ch_link (isAnd := true) (p1 := .pointer (some ⟨g, 81, none⟩)) (p2 := .pointer (some ⟨(g + 1), 81, none⟩)) hI rfl (by go_simp) (load_u64 w2 g 81 _ (rangeAt_sub hA0 1 _ rfl)) (by go_simp) (load_u64 w2 (g + 1) 81 _ (rangeAt_sub hB0 1 _ rfl)) (eql_u64 w2 _ _ x.verf y.verf) rfl rfl rfl (.inl rfl) (by decide) (by decide) fun a hI => ?_
  refine ch_link (isAnd := true) (p1 := .pointer (some ⟨g, 82, none⟩)) (p2 := .pointer (some ⟨(g + 1), 82, none⟩)) hI rfl (by go_simp) (load_u64 w2 g 82 _ (rangeAt_sub hA0 1 _ rfl)) (by go_simp) (load_u64 w2 (g + 1) 82 _ (rangeAt_sub hB0 1 _ rfl)) (eql_u64 w2 _ _ x.cookieVerf y.cookieVerf) rfl rfl rfl (.inl rfl) (by decide) (by decide) fun a hI => ?_
  refine ch_linkG (isAnd := true) [_, _, _, _, _] (fun w' => Quiet w2 w') (b := eqb x.entries y.entries) hI rfl (Quiet.refl _) (by
    intro o ho
    simp only [List.mem_cons, List.not_mem_nil, or_false] at ho
    rcases ho with rfl | rfl | rfl | rfl | rfl <;> exact ⟨rfl, _, rfl, by decide⟩) rfl rfl rfl (.inl rfl) (by decide) (fun hg K hK hK2 => ?_) (fun a w3 hq hI => ?_)
  · refine ch_load (p1 := .pointer (some ⟨g, 83, none⟩)) hI hI.hp hg (by go_simp) (load_entries w2 g 83 _ (rangeAt_sub hA0 1 _ rfl)) (by decide) fun a1 hI1 hv1 _ => ?_
    refine ch_load (p1 := .pointer (some ⟨(g + 1), 83, none⟩)) hI1 hI1.hq hg (by go_simp) (load_entries w2 (g + 1) 83 _ (rangeAt_sub hB0 1 _ rfl)) (by decide) fun a2 hI2 hv2 hk2 => ?_
    have hv1' := hk2 _ _ (by decide) (by decide) hv1
    refine ch_call (v := .bool (eqb x.entries y.entries)) (R := fun w' => Quiet w2 w') hI2 hg rfl rfl (run_callE hv1' hv2) (EqualE_any _ _ _ _ _ _ w2 HEX.out HEY.out HL.out.2.2.1 HL.out.2.2.2) (by decide) fun a3 w3 hq3 hI3 hv3 => ?_
    exact hK2 _ _ (hK _ _ hq3 hI3 hv3)
  have hqm : Mods (fun _ => False) w2 w3 := Quiet.mods hq _
  replace hA0 := rangeAt_keep hA0 hqm (fun h => h)
  replace hB0 := rangeAt_keep hB0 hqm (fun h => h)
  replace HX := hid (HX.out.keep hqm fun _ _ h => h)
  replace HY := hid (HY.out.keep hqm fun _ _ h => h)
  replace HEX := hid (HEX.out.keep hqm fun _ _ h => h)
  replace HEY := hid (HEY.out.keep hqm fun _ _ h => h)
  replace hm := hm.trans hqm
  clear hqm hq
  refine ch_link (isAnd := true) (p1 := .pointer (some ⟨g, 84, none⟩)) (p2 := .pointer (some ⟨(g + 1), 84, none⟩)) hI rfl (by go_simp) (load_u64 w3 g 84 _ (rangeAt_sub hA0 1 _ rfl)) (by go_simp) (load_u64 w3 (g + 1) 84 _ (rangeAt_sub hB0 1 _ rfl)) (eql_u64 w3 _ _ x.bytes y.bytes) rfl rfl rfl (.inl rfl) (by decide) (by decide) fun a hI => ?_
  refine ch_link (isAnd := true) (p1 := .pointer (some ⟨g, 85, none⟩)) (p2 := .pointer (some ⟨(g + 1), 85, none⟩)) hI rfl (by go_simp) (load_u64 w3 g 85 _ (rangeAt_sub hA0 1 _ rfl)) (by go_simp) (load_u64 w3 (g + 1) 85 _ (rangeAt_sub hB0 1 _ rfl)) (eql_u64 w3 _ _ x.freeBytes y.freeBytes) rfl rfl rfl (.inl rfl) (by decide) (by decide) fun a hI => ?_
  refine ch_link (isAnd := true) (p1 := .pointer (some ⟨g, 86, none⟩)) (p2 := .pointer (some ⟨(g + 1), 86, none⟩)) hI rfl (by go_simp) (load_u64 w3 g 86 _ (rangeAt_sub hA0 1 _ rfl)) (by go_simp) (load_u64 w3 (g + 1) 86 _ (rangeAt_sub hB0 1 _ rfl)) (eql_u64 w3 _ _ x.files y.files) rfl rfl rfl (.inl rfl) (by decide) (by decide) fun a hI => ?_
  refine ch_link (isAnd := true) (p1 := .pointer (some ⟨g, 87, none⟩)) (p2 := .pointer (some ⟨(g + 1), 87, none⟩)) hI rfl (by go_simp) (load_u64 w3 g 87 _ (rangeAt_sub hA0 1 _ rfl)) (by go_simp) (load_u64 w3 (g + 1) 87 _ (rangeAt_sub hB0 1 _ rfl)) (eql_u64 w3 _ _ x.freeFiles y.freeFiles) rfl rfl rfl (.inr rfl) (by decide) (by decide) fun a hI => ?_
  refine wpList_nil ?_
  have hres := hI.results
  have HI := hid hI
  clear hI
  go_wp2_with fail
  refine bodyPost_ret (results_tmp rfl _ _ _) HI.out.defers ?_
  refine ⟨?_, hm⟩
  rw [hres]
  refine congrArg (fun b => Ending.returned (.bool b)) (Bool.eq_iff_iff.2 ?_)
  rw [ResV.eqb_all]
  simp only [cond_true, Bool.and_eq_true, eqb_iff, and_assoc]

end Go.Proofs.Ytanknjpcgceccaa

/- ref19.SameRes: it tells whether two results are the same. (Printed by wip/tools/gen_same5.py.) -/
namespace Go.Proofs.Ytanknjpcgceccaa
open Go.RowKit

theorem lit10 {α : Type} {l : List α} {n : Nat} (h : l.length = n + 10) : ∃ c0 c1 c2 c3 c4 c5 c6 c7 c8 c9 t, l = c0 :: c1 :: c2 :: c3 :: c4 :: c5 :: c6 :: c7 :: c8 :: c9 :: t ∧ t.length = n := by
  match l, h with
  | c0 :: c1 :: c2 :: c3 :: c4 :: c5 :: c6 :: c7 :: c8 :: c9 :: t, h => exact ⟨_, _, _, _, _, _, _, _, _, _, _, rfl, by simpa using h⟩
theorem lit8 {α : Type} {l : List α} {n : Nat} (h : l.length = n + 8) : ∃ c0 c1 c2 c3 c4 c5 c6 c7 t, l = c0 :: c1 :: c2 :: c3 :: c4 :: c5 :: c6 :: c7 :: t ∧ t.length = n := by
  match l, h with
  | c0 :: c1 :: c2 :: c3 :: c4 :: c5 :: c6 :: c7 :: t, h => exact ⟨_, _, _, _, _, _, _, _, _, rfl, by simpa using h⟩

theorem run_lenE {a : Act} {w : World} {d : Nat} {x1 : Nat} {ao : Option Addr} {n c : Nat} {s : String} {e : Array Edge} {g : Option (Nat × Bool)} (h1 : a.tmps[x1]? = some (.slice ao n c)) :
    (execOp a.eval ⟨some d, .call { callee := .builtin .len, args := #[.tmp x1], argTypes := #[40] }, 3, s, e, g⟩).run Try.prog w = .ok (.value (.int .i64 n)) w := by
  go_simp

set_option maxRecDepth 100000 in
set_option maxHeartbeats 4000000 in
theorem refSameRes_any (x y : ResV) (xo yo : Option Addr) (xc yc : Nat) (w : World) (hx : SlB w xo xc x.data) (hy : SlB w yo yc y.data)
    (xe ye : Option Addr) (xec yec : Nat) (hex : SlE w xe xec x.entries) (hey : SlE w ye yec y.entries)
    (hlex : x.entries.length ≤ 9223372036854775807) (hley : y.entries.length ≤ 9223372036854775807) :
    Calls Try.prog 17 #[.agg (x.cells (.slice xo x.data.length xc) (.slice xe x.entries.length xec)).toArray, .agg (y.cells (.slice yo y.data.length yc) (.slice ye y.entries.length yec)).toArray] w fun e w' => e = .returned (.bool (eqb x y)) ∧ Mods (fun _ => False) w w' := by
  have HX0 := hid hx; have HY0 := hid hy; have HEX0 := hid hex; have HEY0 := hid hey; clear hx hy hex hey
  have HL := hid (And.intro hlex hley); clear hlex hley
  obtain ⟨A, hAe⟩ : ∃ A, A = (x.cells (.slice xo x.data.length xc) (.slice xe x.entries.length xec)).toArray := ⟨_, rfl⟩
  obtain ⟨B, hBe⟩ : ∃ B, B = (y.cells (.slice yo y.data.length yc) (.slice ye y.entries.length yec)).toArray := ⟨_, rfl⟩
  rw [← hAe, ← hBe]
  have HA := hid hAe; have HB := hid hBe
  clear hAe hBe
  go_enter Try.func17, Try.ntmps17
  go_upto_region 1 with fail
  refine wp_region_list ?_
  have hA0 : ((w.alloc (.cells A 42)).alloc (.cells B 42)).rangeAt w.heap.size 0 A.toList := rangeAt_keep (by have h := rangeAt_new w A.toList 42; simpa using h) (Mods.alloc (fun _ => False) _ _) (fun h => h)
  have hB0 : ((w.alloc (.cells A 42)).alloc (.cells B 42)).rangeAt (w.heap.size + 1) 0 B.toList := by
    have h := rangeAt_new (w.alloc (.cells A 42)) B.toList 42
    simpa using h
  have hm : Mods (fun _ => False) w ((w.alloc (.cells A 42)).alloc (.cells B 42)) := (Mods.alloc _ _ _).trans (Mods.alloc _ _ _)
  generalize (w.alloc (.cells A 42)).alloc (.cells B 42) = w1 at hA0 hB0 hm ⊢
  have HX := hid (HX0.out.keep hm fun _ _ h => h)
  have HY := hid (HY0.out.keep hm fun _ _ h => h)
  have HEX := hid (HEX0.out.keep hm fun _ _ h => h)
  have HEY := hid (HEY0.out.keep hm fun _ _ h => h)
  rw [HA.out, List.toList_toArray] at hA0
  rw [HB.out, List.toList_toArray] at hB0
  clear HX0 HY0 HEX0 HEY0
  have hI : ∀ a : Act, a.tmps.size = 178 ∧ a.defers = [] ∧ a.tmps[2]? = some (.pointer (some ⟨w.heap.size, 0, none⟩)) ∧ a.tmps[3]? = some (.pointer (some ⟨w.heap.size + 1, 0, none⟩)) ∧ a.tmps[4]? = some (.bool false) →
      Inv a 178 2 3 (.pointer (some ⟨w.heap.size, 0, none⟩)) (.pointer (some ⟨w.heap.size + 1, 0, none⟩)) 4 false := fun a ⟨h1, h2, h3, h4, h5⟩ => ⟨h1, h2, h3, h4, h5⟩
  generalize ga : (Act.mk _ _) = a0
  have hI := hI a0 (by rw [← ga]; exact ⟨rfl, rfl, rfl, rfl, rfl⟩)
  clear ga
  generalize w.heap.size = g at hI hA0 hB0
  refine ch_first (p1 := .pointer (some ⟨g, 0, none⟩)) (p2 := .pointer (some ⟨(g + 1), 0, none⟩)) hI (by go_simp) (load_stat w1 g 0 _ (rangeAt_sub hA0 1 _ rfl)) (by go_simp) (load_stat w1 (g + 1) 0 _ (rangeAt_sub hB0 1 _ rfl)) (neq_stat w1 _ _ x.status y.status) (by decide) (by decide) fun a hI => ?_
  refine ch_link (isAnd := false) (p1 := .pointer (some ⟨g, 1, none⟩)) (p2 := .pointer (some ⟨(g + 1), 1, none⟩)) hI rfl (by go_simp) (load_PostV w1 g 1 x.obj (rangeAt_sub hA0 15 _ rfl)) (by go_simp) (load_PostV w1 (g + 1) 1 y.obj (rangeAt_sub hB0 15 _ rfl)) (neq_PostV w1 _ _ x.obj y.obj) rfl rfl rfl (.inl rfl) (by decide) (by decide) fun a hI => ?_
  refine ch_link (isAnd := false) (p1 := .pointer (some ⟨g, 16, none⟩)) (p2 := .pointer (some ⟨(g + 1), 16, none⟩)) hI rfl (by go_simp) (load_PostV w1 g 16 x.dir (rangeAt_sub hA0 15 _ rfl)) (by go_simp) (load_PostV w1 (g + 1) 16 y.dir (rangeAt_sub hB0 15 _ rfl)) (neq_PostV w1 _ _ x.dir y.dir) rfl rfl rfl (.inl rfl) (by decide) (by decide) fun a hI => ?_
  refine ch_link (isAnd := false) (p1 := .pointer (some ⟨g, 31, none⟩)) (p2 := .pointer (some ⟨(g + 1), 31, none⟩)) hI rfl (by go_simp) (load_WccV w1 g 31 x.before (rangeAt_sub hA0 6 _ rfl)) (by go_simp) (load_WccV w1 (g + 1) 31 y.before (rangeAt_sub hB0 6 _ rfl)) (neq_WccV w1 _ _ x.before y.before) rfl rfl rfl (.inl rfl) (by decide) (by decide) fun a hI => ?_
  refine ch_link (isAnd := false) (p1 := .pointer (some ⟨g, 37, none⟩)) (p2 := .pointer (some ⟨(g + 1), 37, none⟩)) hI rfl (by go_simp) (load_WccV w1 g 37 x.toBefore (rangeAt_sub hA0 6 _ rfl)) (by go_simp) (load_WccV w1 (g + 1) 37 y.toBefore (rangeAt_sub hB0 6 _ rfl)) (neq_WccV w1 _ _ x.toBefore y.toBefore) rfl rfl rfl (.inl rfl) (by decide) (by decide) fun a hI => ?_
  refine ch_link (isAnd := false) (p1 := .pointer (some ⟨g, 43, none⟩)) (p2 := .pointer (some ⟨(g + 1), 43, none⟩)) hI rfl (by go_simp) (load_PostV w1 g 43 x.after (rangeAt_sub hA0 15 _ rfl)) (by go_simp) (load_PostV w1 (g + 1) 43 y.after (rangeAt_sub hB0 15 _ rfl)) (neq_PostV w1 _ _ x.after y.after) rfl rfl rfl (.inl rfl) (by decide) (by decide) fun a hI => ?_
  refine ch_link (isAnd := false) (p1 := .pointer (some ⟨g, 58, none⟩)) (p2 := .pointer (some ⟨(g + 1), 58, none⟩)) hI rfl (by go_simp) (load_PostV w1 g 58 x.toAfter (rangeAt_sub hA0 15 _ rfl)) (by go_simp) (load_PostV w1 (g + 1) 58 y.toAfter (rangeAt_sub hB0 15 _ rfl)) (neq_PostV w1 _ _ x.toAfter y.toAfter) rfl rfl rfl (.inl rfl) (by decide) (by decide) fun a hI => ?_
  refine ch_link (isAnd := false) (p1 := .pointer (some ⟨g, 73, none⟩)) (p2 := .pointer (some ⟨(g + 1), 73, none⟩)) hI rfl (by go_simp) (load_bool w1 g 73 _ (rangeAt_sub hA0 1 _ rfl)) (by go_simp) (load_bool w1 (g + 1) 73 _ (rangeAt_sub hB0 1 _ rfl)) (neq_bool w1 _ _ x.hasHandle y.hasHandle) rfl rfl rfl (.inl rfl) (by decide) (by decide) fun a hI => ?_
  refine ch_linkG1 (isAnd := false) [_, _, _, _, _] (fun w' => w' = w1) (b := !eqb x.handle y.handle) hI rfl rfl (by
    intro o ho
    simp only [List.mem_cons, List.not_mem_nil, or_false] at ho
    rcases ho with rfl | rfl | rfl | rfl | rfl <;> exact ⟨rfl, _, rfl, by decide⟩) rfl rfl rfl (by decide) (fun hg K hK hK2 => ?_) (fun a w' hw hI => ?_)
  · refine ch_cmp (p1 := .pointer (some ⟨g, 74, none⟩)) (p2 := .pointer (some ⟨(g + 1), 74, none⟩)) hI (g := some (_, false)) hg (by go_simp) (load_str w1 g 74 _ (rangeAt_sub hA0 1 _ rfl)) (by go_simp) (load_str w1 (g + 1) 74 _ (rangeAt_sub hB0 1 _ rfl)) (neq_str w1 _ _ x.handle y.handle) (by decide) fun a1 hI1 hv1 => ?_
    exact hK2 _ _ (hK _ _ rfl hI1 hv1)
  have hw := hw.symm
  subst hw
  refine wpList_nil ?_
  obtain ⟨c1, hc1, hI⟩ : ∃ c1, c1 = _ ∧ Inv a 178 2 3 _ _ 66 c1 := ⟨_, rfl, hI⟩
  have HC1 := hid hc1
  clear hc1
  have HI := hid hI
  have hev := eval_tmp hI.hm
  cases c1
  · clear hI
    go_wp2_with fail
    refine wp_cond_false hev ?_
    go_upto_region 3 with fail
    refine wp_region_list ?_
    have hI := HI.out
    clear HI hev
    refine ch_first (p1 := .pointer (some ⟨g, 75, none⟩)) (p2 := .pointer (some ⟨(g + 1), 75, none⟩)) hI (by go_simp) (load_u32 w1 g 75 _ (rangeAt_sub hA0 1 _ rfl)) (by go_simp) (load_u32 w1 (g + 1) 75 _ (rangeAt_sub hB0 1 _ rfl)) (neq_u32 w1 _ _ x.access y.access) (by decide) (by decide) fun a hI => ?_
    refine ch_link (isAnd := false) (p1 := .pointer (some ⟨g, 76, none⟩)) (p2 := .pointer (some ⟨(g + 1), 76, none⟩)) hI rfl (by go_simp) (load_str w1 g 76 _ (rangeAt_sub hA0 1 _ rfl)) (by go_simp) (load_str w1 (g + 1) 76 _ (rangeAt_sub hB0 1 _ rfl)) (neq_str w1 _ _ x.path y.path) rfl rfl rfl (.inl rfl) (by decide) (by decide) fun a hI => ?_
    refine ch_link (isAnd := false) (p1 := .pointer (some ⟨g, 77, none⟩)) (p2 := .pointer (some ⟨(g + 1), 77, none⟩)) hI rfl (by go_simp) (load_u32 w1 g 77 _ (rangeAt_sub hA0 1 _ rfl)) (by go_simp) (load_u32 w1 (g + 1) 77 _ (rangeAt_sub hB0 1 _ rfl)) (neq_u32 w1 _ _ x.count y.count) rfl rfl rfl (.inl rfl) (by decide) (by decide) fun a hI => ?_
    refine ch_link (isAnd := false) (p1 := .pointer (some ⟨g, 78, none⟩)) (p2 := .pointer (some ⟨(g + 1), 78, none⟩)) hI rfl (by go_simp) (load_bool w1 g 78 _ (rangeAt_sub hA0 1 _ rfl)) (by go_simp) (load_bool w1 (g + 1) 78 _ (rangeAt_sub hB0 1 _ rfl)) (neq_bool w1 _ _ x.eof y.eof) rfl rfl rfl (.inl rfl) (by decide) (by decide) fun a hI => ?_
    refine ch_linkG (isAnd := false) [_, _, _, _, _, _, _] (fun w' => w' = w1) (b := !eqb x.data y.data) hI rfl rfl (by
      intro o ho
      simp only [List.mem_cons, List.not_mem_nil, or_false] at ho
      rcases ho with rfl | rfl | rfl | rfl | rfl | rfl | rfl <;> exact ⟨rfl, _, rfl, by decide⟩) rfl rfl rfl (.inl rfl) (by decide) (fun hg K hK hK2 => ?_) (fun a w' hw hI => ?_)
    · refine ch_load (p1 := .pointer (some ⟨g, 79, none⟩)) hI hI.hp hg (by go_simp) (load_bytes w1 g 79 _ (rangeAt_sub hA0 1 _ rfl)) (by decide) fun a1 hI1 hv1 _ => ?_
      refine ch_val hI1 hg rfl rfl (v := .string (str x.data)) (by simp only [execOp, eval_tmp hv1, Sem.run_bind, run_conv HX.out]; rfl) (by decide) fun a2 hI2 hv2 _ => ?_
      refine ch_load (p1 := .pointer (some ⟨(g + 1), 79, none⟩)) hI2 hI2.hq hg (by go_simp) (load_bytes w1 (g + 1) 79 _ (rangeAt_sub hB0 1 _ rfl)) (by decide) fun a3 hI3 hv3 hk3 => ?_
      have hv2' := hk3 _ _ (by decide) (by decide) hv2
      refine ch_val hI3 hg rfl rfl (v := .string (str y.data)) (by simp only [execOp, eval_tmp hv3, Sem.run_bind, run_conv HY.out]; rfl) (by decide) fun a4 hI4 hv4 hk4 => ?_
      have hv2'' := hk4 _ _ (by decide) hv2'
      refine ch_val hI4 hg rfl rfl (v := .bool (!eqb x.data y.data)) ?_ (by decide) fun a5 hI5 hv5 _ => ?_
      · simp only [execOp, eval_tmp hv2'', eval_tmp hv4]
        rw [Sem.run_bind, neq_str w1 _ _ x.data y.data]
        rfl
      · exact hK2 _ _ (hK _ _ rfl hI5 hv5)
    have hw := hw.symm
    subst hw
    refine ch_link (isAnd := false) (p1 := .pointer (some ⟨g, 80, none⟩)) (p2 := .pointer (some ⟨(g + 1), 80, none⟩)) hI rfl (by go_simp) (load_int w1 g 80 _ (rangeAt_sub hA0 1 _ rfl)) (by go_simp) (load_int w1 (g + 1) 80 _ (rangeAt_sub hB0 1 _ rfl)) (neq_int w1 _ _ x.committed y.committed) rfl rfl rfl (.inl rfl) (by decide) (by decide) fun a hI => ?_
    refine ch_link (isAnd := false) (p1 := .pointer (some ⟨g, 81, none⟩)) (p2 := .pointer (some ⟨(g + 1), 81, none⟩)) hI rfl (by go_simp) (load_u64 w1 g 81 _ (rangeAt_sub hA0 1 _ rfl)) (by go_simp) (load_u64 w1 (g + 1) 81 _ (rangeAt_sub hB0 1 _ rfl)) (neq_u64 w1 _ _ x.verf y.verf) rfl rfl rfl (.inl rfl) (by decide) (by decide) fun a hI => ?_
    refine ch_link (isAnd := false) (p1 := .pointer (some ⟨g, 82, none⟩)) (p2 := .pointer (some ⟨(g + 1), 82, none⟩)) hI rfl (by go_simp) (load_u64 w1 g 82 _ (rangeAt_sub hA0 1 _ rfl)) (by go_simp) (load_u64 w1 (g + 1) 82 _ (rangeAt_sub hB0 1 _ rfl)) (neq_u64 w1 _ _ x.cookieVerf y.cookieVerf) rfl rfl rfl (.inl rfl) (by decide) (by decide) fun a hI => ?_
    refine ch_link (isAnd := false) (p1 := .pointer (some ⟨g, 84, none⟩)) (p2 := .pointer (some ⟨(g + 1), 84, none⟩)) hI rfl (by go_simp) (load_u64 w1 g 84 _ (rangeAt_sub hA0 1 _ rfl)) (by go_simp) (load_u64 w1 (g + 1) 84 _ (rangeAt_sub hB0 1 _ rfl)) (neq_u64 w1 _ _ x.bytes y.bytes) rfl rfl rfl (.inl rfl) (by decide) (by decide) fun a hI => ?_
    refine ch_link (isAnd := false) (p1 := .pointer (some ⟨g, 85, none⟩)) (p2 := .pointer (some ⟨(g + 1), 85, none⟩)) hI rfl (by go_simp) (load_u64 w1 g 85 _ (rangeAt_sub hA0 1 _ rfl)) (by go_simp) (load_u64 w1 (g + 1) 85 _ (rangeAt_sub hB0 1 _ rfl)) (neq_u64 w1 _ _ x.freeBytes y.freeBytes) rfl rfl rfl (.inl rfl) (by decide) (by decide) fun a hI => ?_
    refine ch_link (isAnd := false) (p1 := .pointer (some ⟨g, 86, none⟩)) (p2 := .pointer (some ⟨(g + 1), 86, none⟩)) hI rfl (by go_simp) (load_u64 w1 g 86 _ (rangeAt_sub hA0 1 _ rfl)) (by go_simp) (load_u64 w1 (g + 1) 86 _ (rangeAt_sub hB0 1 _ rfl)) (neq_u64 w1 _ _ x.files y.files) rfl rfl rfl (.inl rfl) (by decide) (by decide) fun a hI => ?_
    refine ch_link (isAnd := false) (p1 := .pointer (some ⟨g, 87, none⟩)) (p2 := .pointer (some ⟨(g + 1), 87, none⟩)) hI rfl (by go_simp) (load_u64 w1 g 87 _ (rangeAt_sub hA0 1 _ rfl)) (by go_simp) (load_u64 w1 (g + 1) 87 _ (rangeAt_sub hB0 1 _ rfl)) (neq_u64 w1 _ _ x.freeFiles y.freeFiles) rfl rfl rfl (.inl rfl) (by decide) (by decide) fun a hI => ?_
    refine ch_linkG1 (isAnd := false) [_, _, _, _, _, _, _] (fun w' => w' = w1) (b := !eqb (x.entries.length : Int) (y.entries.length : Int)) hI rfl rfl (by
      intro o ho
      simp only [List.mem_cons, List.not_mem_nil, or_false] at ho
      rcases ho with rfl | rfl | rfl | rfl | rfl | rfl | rfl <;> exact ⟨rfl, _, rfl, by decide⟩) rfl rfl rfl (by decide) (fun hg K hK hK2 => ?_) (fun a w' hw hI => ?_)
    · refine ch_load (p1 := .pointer (some ⟨g, 83, none⟩)) hI hI.hp hg (by go_simp) (load_entries w1 g 83 _ (rangeAt_sub hA0 1 _ rfl)) (by decide) fun a1 hI1 hv1 _ => ?_
      refine ch_val hI1 hg rfl rfl (v := .int .i64 x.entries.length) (run_lenE hv1) (by decide) fun a2 hI2 hv2 _ => ?_
      refine ch_load (p1 := .pointer (some ⟨(g + 1), 83, none⟩)) hI2 hI2.hq hg (by go_simp) (load_entries w1 (g + 1) 83 _ (rangeAt_sub hB0 1 _ rfl)) (by decide) fun a3 hI3 hv3 hk3 => ?_
      have hv2' := hk3 _ _ (by decide) (by decide) hv2
      refine ch_val hI3 hg rfl rfl (v := .int .i64 y.entries.length) (run_lenE hv3) (by decide) fun a4 hI4 hv4 hk4 => ?_
      have hv2'' := hk4 _ _ (by decide) hv2'
      refine ch_val hI4 hg rfl rfl (v := .bool (!eqb (x.entries.length : Int) (y.entries.length : Int))) ?_ (by decide) fun a5 hI5 hv5 _ => ?_
      · simp only [execOp, eval_tmp hv2'', eval_tmp hv4]
        rw [Sem.run_bind, neq_int w1]
        rfl
      · exact hK2 _ _ (hK _ _ rfl hI5 hv5)
    have hw := hw.symm
    subst hw
    refine wpList_nil ?_
    obtain ⟨c2, hc2, hI⟩ : ∃ c2, c2 = _ ∧ Inv a 178 2 3 _ _ 159 c2 := ⟨_, rfl, hI⟩
    have HC2 := hid hc2
    clear hc2
    have HI := hid hI
    have hev := eval_tmp hI.hm
    cases c2
    · clear hI
      go_wp2_with fail
      refine wp_cond_false hev ?_
      have hall : Hid (x.entries.length = y.entries.length ∧ (x.status = y.status ∧ x.obj = y.obj ∧ x.dir = y.dir ∧ x.before = y.before ∧ x.toBefore = y.toBefore ∧ x.after = y.after ∧ x.toAfter = y.toAfter ∧ x.hasHandle = y.hasHandle ∧ x.handle = y.handle ∧ x.access = y.access ∧ x.path = y.path ∧ x.count = y.count ∧ x.eof = y.eof ∧ x.data = y.data ∧ x.committed = y.committed ∧ x.verf = y.verf ∧ x.cookieVerf = y.cookieVerf ∧ x.bytes = y.bytes ∧ x.freeBytes = y.freeBytes ∧ x.files = y.files ∧ x.freeFiles = y.freeFiles)) := by
        have h1 := HC1.out.symm
        have h2 := HC2.out.symm
        simp only [cond_false, Bool.or_eq_false_iff, Bool.not_eq_false', eqb_iff] at h1 h2
        simp only [Hid]
        obtain ⟨h2, h3⟩ := h2
        simp only [h1, h2, and_true, and_self]
        omega
      obtain ⟨tm, df⟩ := a
      have hd : df = [] := HI.out.defers
      subst hd
      obtain ⟨l, hl, rfl⟩ : ∃ l : List Value, l.length = 178 ∧ tm = l.toArray := ⟨tm.toList, HI.out.size, by simp⟩
      obtain ⟨c0, c1, c2, c3, c4, c5, c6, c7, c8, c9, l1, rfl, hl1⟩ := lit10 hl
      obtain ⟨c10, c11, c12, c13, c14, c15, c16, c17, c18, c19, l2, rfl, hl2⟩ := lit10 hl1
      obtain ⟨c20, c21, c22, c23, c24, c25, c26, c27, c28, c29, l3, rfl, hl3⟩ := lit10 hl2
      obtain ⟨c30, c31, c32, c33, c34, c35, c36, c37, c38, c39, l4, rfl, hl4⟩ := lit10 hl3
      obtain ⟨c40, c41, c42, c43, c44, c45, c46, c47, c48, c49, l5, rfl, hl5⟩ := lit10 hl4
      obtain ⟨c50, c51, c52, c53, c54, c55, c56, c57, c58, c59, l6, rfl, hl6⟩ := lit10 hl5
      obtain ⟨c60, c61, c62, c63, c64, c65, c66, c67, c68, c69, l7, rfl, hl7⟩ := lit10 hl6
      obtain ⟨c70, c71, c72, c73, c74, c75, c76, c77, c78, c79, l8, rfl, hl8⟩ := lit10 hl7
      obtain ⟨c80, c81, c82, c83, c84, c85, c86, c87, c88, c89, l9, rfl, hl9⟩ := lit10 hl8
      obtain ⟨c90, c91, c92, c93, c94, c95, c96, c97, c98, c99, l10, rfl, hl10⟩ := lit10 hl9
      obtain ⟨c100, c101, c102, c103, c104, c105, c106, c107, c108, c109, l11, rfl, hl11⟩ := lit10 hl10
      obtain ⟨c110, c111, c112, c113, c114, c115, c116, c117, c118, c119, l12, rfl, hl12⟩ := lit10 hl11
      obtain ⟨c120, c121, c122, c123, c124, c125, c126, c127, c128, c129, l13, rfl, hl13⟩ := lit10 hl12
      obtain ⟨c130, c131, c132, c133, c134, c135, c136, c137, c138, c139, l14, rfl, hl14⟩ := lit10 hl13
      obtain ⟨c140, c141, c142, c143, c144, c145, c146, c147, c148, c149, l15, rfl, hl15⟩ := lit10 hl14
      obtain ⟨c150, c151, c152, c153, c154, c155, c156, c157, c158, c159, l16, rfl, hl16⟩ := lit10 hl15
      obtain ⟨c160, c161, c162, c163, c164, c165, c166, c167, c168, c169, l17, rfl, hl17⟩ := lit10 hl16
      obtain ⟨c170, c171, c172, c173, c174, c175, c176, c177, l18, rfl, hl18⟩ := lit8 hl17
      obtain rfl := List.eq_nil_of_length_eq_zero hl18
      have hp2 := HI.out.hp
      have hq3 := HI.out.hq
      simp only [List.getElem?_toArray, List.getElem?_cons_succ, List.getElem?_cons_zero, Option.some.injEq] at hp2 hq3
      subst hp2 hq3
      clear HI hev hl hl1 hl2 hl3 hl4 hl5 hl6 hl7 hl8 hl9 hl10 hl11 hl12 hl13 hl14 hl15 hl16 hl17 hl18
      have hcx := hid (rangeAt_one (rangeAt_sub (o := 83) hA0 1 _ rfl))
      have hcy := hid (rangeAt_one (rangeAt_sub (o := 83) hB0 1 _ rfl))
      have hle : Hid (x.entries.length = y.entries.length) := hid hall.out.1
      have hlx := HL.out.1
      obtain ⟨xs, hxs⟩ : ∃ z, z = x.entries := ⟨_, rfl⟩
      obtain ⟨ys, hys⟩ : ∃ z, z = y.entries := ⟨_, rfl⟩
      rw [← hxs, ← hys] at hle
      rw [← hxs] at hcx hlx HEX
      rw [← hys] at hcy HEY
      have hle2 : xs.length = ys.length := hle.out
      rw [← hle2] at hcy
      have HXS := hid hxs; have HYS := hid hys
      clear hxs hys HC1 HC2 HA HB hA0 hB0 hle HX HY HL
      have HM := hid hm; clear hm
      go_wp2
      go_loopw [5] (fun i wr => ∃ (k : Nat), k ≤ xs.length ∧ i = .int .i64 (k : Int) ∧ Quiet w1 wr ∧ xs.take k = ys.take k) (fun i _ => xs.length - (intOf i).toNat)
      case atStart => exact ⟨0, by omega, by go_num, Quiet.refl _, by simp⟩
      case round =>
        obtain ⟨k, hk, rfl, hq, ht⟩ := hrel
        have HQ := hid hq; have HT := hid ht; clear hq ht
        have hqm : Mods (fun _ => False) w1 wr := Quiet.mods HQ.out _
        have hc1 := hqm.cell hcx.out (fun h => h)
        have hc2 := hqm.cell hcy.out (fun h => h)
        by_cases hlt : k < xs.length
        · have hlb2 : k < ys.length := by omega
          obtain ⟨b1, o1, rfl, he1⟩ := (HEX.out.keep hqm (fun _ _ h => h)).at hlt
          obtain ⟨b2, o2, rfl, he2⟩ := (HEY.out.keep hqm (fun _ _ h => h)).at hlb2
          obtain ⟨x1, hx⟩ : ∃ x, x = xs[k] := ⟨_, rfl⟩
          obtain ⟨y1, hy⟩ : ∃ y, y = ys[k] := ⟨_, rfl⟩
          rw [← hx] at he1
          rw [← hy] at he2
          have HX := hid hx; have HY := hid hy; clear hx hy
          have HL1 := hid (fun n => load_EntryV (wr.drewN n) b1 (o1 + k * 20) x1 (rangeAt_keep he1 (Mods.drewN (fun _ => False) wr n) (fun h => h)))
          have HL2 := hid (fun n => load_EntryV (wr.drewN n) b2 (o2 + k * 20) y1 (rangeAt_keep he2 (Mods.drewN (fun _ => False) wr n) (fun h => h)))
          have hn := hid (fun w p q => neq_EntryV w p q x1 y1)
          clear he1 he2 hqm
          by_cases hxy : x1 = y1
          · have he : (!eqb x1 y1) = false := by rw [eqb_iff.2 hxy]; rfl
            have hnt := hid (take_grow hlt hlb2 HT.out (by rw [← HX.out, ← HY.out, hxy]))
            clear hxy
            go_wp2_with fail
            refine wp_region_quiet_lit (by kernel_rfl) (by kernel_rfl) ?_
            repeat (go_big_quiet_step (fail))
            refine q_load rfl rfl rfl (by rintro _ ⟨n, rfl⟩; exact HL1.out n) ?_
            simp only [Act.put, List.setIfInBounds_toArray, List.set_cons_succ, List.set_cons_zero]
            repeat (go_big_quiet_step (fail))
            refine q_load rfl rfl rfl (by rintro _ ⟨n, rfl⟩; exact HL2.out n) ?_
            simp only [Act.put, List.setIfInBounds_toArray, List.set_cons_succ, List.set_cons_zero]
            refine q_bin rfl rfl rfl rfl (fun w _ => hn.out w _ _) ?_
            simp only [Act.put, List.setIfInBounds_toArray, List.set_cons_succ, List.set_cons_zero]
            rw [he]
            refine wpQuiet_nil ?_
            rintro _ ⟨nq, rfl⟩
            clear he
            have hq2 := hid (Quiet.trans (a := w1) (b := wr) HQ.out ⟨nq, rfl⟩)
            clear HL1 HL2 hn hc1 hc2
            go_wp2
            go_roundw
            case rel => exact ⟨k + 1, by omega, by go_num, hq2.out, hnt.out⟩
            case measure => simp [intOf]; omega
          · have he : (!eqb x1 y1) = true := by rw [eqb_ne hxy]; rfl
            have hno : Hid (xs ≠ ys) := fun e => hxy (by rw [HX.out, HY.out]; simp [e])
            clear hxy
            go_wp2_with fail
            refine wp_region_quiet_lit (by kernel_rfl) (by kernel_rfl) ?_
            repeat (go_big_quiet_step (fail))
            refine q_load rfl rfl rfl (by rintro _ ⟨n, rfl⟩; exact HL1.out n) ?_
            simp only [Act.put, List.setIfInBounds_toArray, List.set_cons_succ, List.set_cons_zero]
            repeat (go_big_quiet_step (fail))
            refine q_load rfl rfl rfl (by rintro _ ⟨n, rfl⟩; exact HL2.out n) ?_
            simp only [Act.put, List.setIfInBounds_toArray, List.set_cons_succ, List.set_cons_zero]
            refine q_bin rfl rfl rfl rfl (fun w _ => hn.out w _ _) ?_
            simp only [Act.put, List.setIfInBounds_toArray, List.set_cons_succ, List.set_cons_zero]
            rw [he]
            refine wpQuiet_nil ?_
            rintro _ ⟨nq, rfl⟩
            clear he
            have hq2 := hid (Quiet.trans (a := w1) (b := wr) HQ.out ⟨nq, rfl⟩)
            clear HL1 HL2 hn hc1 hc2
            go_wp2
            go_ret
            exact ⟨by rw [eqb_ne fun e => hno.out (by rw [HXS.out, HYS.out, e])]; rfl, HM.out.trans (Quiet.mods hq2.out _)⟩
        · have hyes : Hid (x = y) := hid (by
            have h := HT.out
            rw [List.take_of_length_le (by omega), List.take_of_length_le (by omega), HXS.out, HYS.out] at h
            rw [← eqb_iff, ResV.eqb_all]
            obtain ⟨_, h1⟩ := hall.out
            simp only [h1, h, and_self])
          go_wp2
          go_ret
          exact ⟨by rw [hyes.out, eqb_self]; rfl, HM.out.trans (Quiet.mods HQ.out _)⟩
    · clear hI
      go_wp2_with fail
      refine wp_cond_true hev ?_
      refine wp_seq (wp_region_list (wpList_val (v := .bool false) rfl rfl (wpList_nil ?_)))
      have HR := hid (put_at (v := .bool false) HI.out.size (show 4 < 178 by decide))
      go_wp2_with fail
      refine bodyPost_ret (results_tmp rfl _ _ _) HI.out.defers ?_
      refine ⟨?_, hm⟩
      have hne : eqb x y = false := eqb_ne fun e => by
        subst e
        have h2 := HC2.out
        simp [eqb_self] at h2
      rw [hne, Array.getD_eq_getD_getElem?, HR.out]
      rfl
  · clear hI
    go_wp2_with fail
    refine wp_cond_true hev ?_
    refine wp_seq (wp_region_list (wpList_val (v := .bool false) rfl rfl (wpList_nil ?_)))
    have HR := hid (put_at (v := .bool false) HI.out.size (show 4 < 178 by decide))
    go_wp2_with fail
    refine bodyPost_ret (results_tmp rfl _ _ _) HI.out.defers ?_
    refine ⟨?_, hm⟩
    have hne : eqb x y = false := eqb_ne fun e => by
      subst e
      have h1 := HC1.out
      simp [eqb_self] at h1
    rw [hne, Array.getD_eq_getD_getElem?, HR.out]
    rfl

end Go.Proofs.Ytanknjpcgceccaa
