/- 'x, y := p.f, p.g' of numbers into two new variables, in a drawn region whose moves, checks and addresses have yielded. No program. -/
import Derived.Test.YtanknjpcgceccaaReg7
import Derived.Test.YtanknjpcgceccaaCopy2
namespace Go.Proofs.Ytanknjpcgceccaa

def lst (l3 l7 l8 l9 l10 l11 : Bool) : Array Bool := #[true, true, true, l3, true, true, true, l7, l8, l9, l10, l11]
def cput (b : Bool) (d : Nat) (v : Value) (a : Act) : Act := if b then a.put (some d) v else a
theorem cput_size (b : Bool) (d : Nat) (v : Value) (a : Act) : (cput b d v a).tmps.size = a.tmps.size := by
  unfold cput; split
  · exact putsize _ _ _
  · rfl
theorem cput_ne {b : Bool} {d j : Nat} {v u : Value} {a : Act} (h : a.tmps[j]? = some u) (hne : d ≠ j) : (cput b d v a).tmps[j]? = some u := by
  unfold cput; split
  · exact put_ne h hne
  · exact h
theorem cput_put {b : Bool} {d e : Nat} {u v : Value} {a : Act} (h : d ≠ e) : (cput b d u a).put (some e) v = cput b d u (a.put (some e) v) := by
  unfold cput; split
  · exact put_comm a u v h
  · rfl
def Dep12 (l : Array Oper) : Prop := ∀ l3 l7 l8 l9 l10 l11 : Bool,
  ((Region.ready .any l (lst l3 l7 l8 l9 l10 l11)).contains 10 = true → l3 = true ∧ l8 = true) ∧ ((Region.ready .any l (lst l3 l7 l8 l9 l10 l11)).contains 11 = true → l7 = true ∧ l9 = true) ∧
  (Region.ready .any l (lst l3 l7 l8 l9 l10 l11) = [] → (l3 = true ∧ l7 = true) ∧ (l8 = true ∧ l9 = true) ∧ (l10 = true ∧ l11 = true))

def bothB (f : Bool → Bool) : Bool := f false && f true
theorem bothB_all {f : Bool → Bool} (h : bothB f = true) (b : Bool) : f b = true := by
  unfold bothB at h
  rw [Bool.and_eq_true] at h
  cases b
  · exact h.1
  · exact h.2
def dep12B (l : Array Oper) : Bool :=
  bothB fun l3 => bothB fun l7 => bothB fun l8 => bothB fun l9 => bothB fun l10 => bothB fun l11 =>
    let r := Region.ready .any l (lst l3 l7 l8 l9 l10 l11)
    (!r.contains 10 || (l3 && l8)) && ((!r.contains 11 || (l7 && l9)) && (!r.isEmpty || ((l3 && l7) && ((l8 && l9) && (l10 && l11)))))
theorem dep12 {l : Array Oper} (h : dep12B l = true) : Dep12 l := by
  intro l3 l7 l8 l9 l10 l11
  have h1 := bothB_all (bothB_all (bothB_all (bothB_all (bothB_all (bothB_all h l3) l7) l8) l9) l10) l11
  simp only [Bool.and_eq_true, Bool.or_eq_true, Bool.not_eq_true'] at h1
  obtain ⟨ha, hb, hc⟩ := h1
  refine ⟨fun h => ha.resolve_left (by rw [h]; simp), fun h => hb.resolve_left (by rw [h]; simp), fun h => ?_⟩
  rw [h] at hc
  exact hc.resolve_left (by simp)

set_option maxHeartbeats 1000000 in
theorem any_locals2 {P : Program} {Q : Exit → Act → World → Prop} {tf : TypeId} {x y d3 d7 q3 q7 n : Nat} {ops : Array Oper} {a6 : Act} {w0 : World} {pA pB vA vB z : Value} {y3 y7 y8 y9 y10 y11 : TypeId} {s3 s7 s8 s9 s10 s11 : String} {e3 e7 e8 e9 e10 e11 : Array Edge}
    (o3 : ops[3]? = some ⟨some d3, .load tf (.tmp q3), y3, s3, e3, none⟩) (o7 : ops[7]? = some ⟨some d7, .load tf (.tmp q7), y7, s7, e7, none⟩)
    (o8 : ops[8]? = some ⟨some x, .alloc tf, y8, s8, e8, none⟩) (o9 : ops[9]? = some ⟨some y, .alloc tf, y9, s9, e9, none⟩)
    (o10 : ops[10]? = some ⟨none, .store tf (.tmp x) (.tmp d3), y10, s10, e10, none⟩) (o11 : ops[11]? = some ⟨none, .store tf (.tmp y) (.tmp d7), y11, s11, e11, none⟩)
    (hsz : ops.size = 12) (hdep : Dep12 ops)
    (hne : (d3 ≠ q3 ∧ d3 ≠ q7 ∧ d7 ≠ q3 ∧ d7 ≠ q7 ∧ x ≠ q3 ∧ x ≠ q7 ∧ y ≠ q3 ∧ y ≠ q7) ∧ (d3 ≠ d7 ∧ d3 ≠ x ∧ d3 ≠ y ∧ d7 ≠ x ∧ d7 ≠ y ∧ x ≠ y) ∧ (d3 < n ∧ d7 < n ∧ x < n ∧ y < n))
    (hs : a6.tmps.size = n) (hA : a6.tmps[q3]? = some pA) (hB : a6.tmps[q7]? = some pB)
    (LA : ∀ w, Mods (fun _ => False) w0 w → (Instr.loadAt tf pA).run P w = .ok vA w) (LB : ∀ w, Mods (fun _ => False) w0 w → (Instr.loadAt tf pB).run P w = .ok vB w)
    (hz : ∀ w : World, (Instr.alloc tf true (.tuple #[])).run P w = .ok (.pointer (some ⟨w.heap.size, 0, none⟩)) (w.alloc (.cells #[z] tf)))
    (SA : ∀ (ev : Operand → Value) (w : World) (h : Nat) (u : Value), ev (.tmp x) = .pointer (some ⟨h, 0, none⟩) → ev (.tmp d3) = vA → w.cell? ⟨h, 0, none⟩ = some u → w.frozen? ⟨h, 0, none⟩ = false → (execOp ev ⟨none, .store tf (.tmp x) (.tmp d3), y10, s10, e10, none⟩).run P w = .ok .skip (w.setCell ⟨h, 0, none⟩ vA))
    (SB : ∀ (ev : Operand → Value) (w : World) (h : Nat) (u : Value), ev (.tmp y) = .pointer (some ⟨h, 0, none⟩) → ev (.tmp d7) = vB → w.cell? ⟨h, 0, none⟩ = some u → w.frozen? ⟨h, 0, none⟩ = false → (execOp ev ⟨none, .store tf (.tmp y) (.tmp d7), y11, s11, e11, none⟩).run P w = .ok .skip (w.setCell ⟨h, 0, none⟩ vB))
    (hQ : ∀ h0 h1 w', h0 ≠ h1 → w0.heap.size ≤ h0 → w0.heap.size ≤ h1 → Mods (fun _ => False) w0 w' → w'.cell? ⟨h0, 0, none⟩ = some vA → w'.cell? ⟨h1, 0, none⟩ = some vB → (h0 < w'.heap.size ∧ ∀ j, w'.frozen? ⟨h0, j, none⟩ = false) → (h1 < w'.heap.size ∧ ∀ j, w'.frozen? ⟨h1, j, none⟩ = false) →
      Q .normal ((((a6.put (some y) (.pointer (some ⟨h1, 0, none⟩))).put (some x) (.pointer (some ⟨h0, 0, none⟩))).put (some d7) vB).put (some d3) vA) w') :
    wpAny P .any ops Q 6 (lst false false false false false false) a6 w0 := by
  obtain ⟨⟨n1, n2, n3, n4, n5, n6, n7, n8⟩, ⟨m1, m2, m3, m4, m5, m6⟩, b1, b2, b3, b4⟩ := hne
  refine wpAny_inv (fun listed a w => ∃ l3 l7 l8 l9 l10 l11 h0 h1, listed = lst l3 l7 l8 l9 l10 l11 ∧
    a = cput l3 d3 vA (cput l7 d7 vB (cput l8 x (.pointer (some ⟨h0, 0, none⟩)) (cput l9 y (.pointer (some ⟨h1, 0, none⟩)) a6))) ∧ Mods (fun _ => False) w0 w ∧
    (l8 = true → w0.heap.size ≤ h0 ∧ h0 < w.heap.size ∧ w.cell? ⟨h0, 0, none⟩ = some (if l10 then vA else z) ∧ ∀ j, w.frozen? ⟨h0, j, none⟩ = false) ∧
    (l9 = true → w0.heap.size ≤ h1 ∧ h1 < w.heap.size ∧ w.cell? ⟨h1, 0, none⟩ = some (if l11 then vB else z) ∧ ∀ j, w.frozen? ⟨h1, j, none⟩ = false) ∧
    (l8 = true → l9 = true → h0 ≠ h1) ∧ (l10 = true → l8 = true) ∧ (l11 = true → l9 = true)) ?_ ?_ _ _ _ _ (by rw [hsz]; rfl) (by decide) ?_
  · rintro listed a w i ⟨l3, l7, l8, l9, l10, l11, h0, h1, rfl, rfl, hm, k8, k9, kne, k10, k11⟩ hr
    have hr0 := hr
    simp only [Region.ready, List.mem_filter, List.mem_range, Bool.and_eq_true, Bool.not_eq_true', hsz] at hr
    obtain ⟨hi12, hfree, _⟩ := hr
    have hsize : (cput l3 d3 vA (cput l7 d7 vB (cput l8 x (.pointer (some ⟨h0, 0, none⟩)) (cput l9 y (.pointer (some ⟨h1, 0, none⟩)) a6)))).tmps.size = n := by simp only [cput_size, hs]
    have hA' : (cput l3 d3 vA (cput l7 d7 vB (cput l8 x (.pointer (some ⟨h0, 0, none⟩)) (cput l9 y (.pointer (some ⟨h1, 0, none⟩)) a6)))).tmps[q3]? = some pA := cput_ne (cput_ne (cput_ne (cput_ne hA n7) n5) n3) n1
    have hB' : (cput l3 d3 vA (cput l7 d7 vB (cput l8 x (.pointer (some ⟨h0, 0, none⟩)) (cput l9 y (.pointer (some ⟨h1, 0, none⟩)) a6)))).tmps[q7]? = some pB := cput_ne (cput_ne (cput_ne (cput_ne hB n8) n6) n4) n2
    match i, hi12 with
    | 0, _ => simp [lst] at hfree
    | 1, _ => simp [lst] at hfree
    | 2, _ => simp [lst] at hfree
    | 4, _ => simp [lst] at hfree
    | 5, _ => simp [lst] at hfree
    | 6, _ => simp [lst] at hfree
    | 3, _ =>
      have e : l3 = false := by simpa [lst] using hfree
      subst e
      unfold wpOp
      rw [o3]
      simp only [Region.wanted, if_true]
      refine .inl ?_
      unfold Oper.wp
      have hrun : (execOp (cput false d3 vA (cput l7 d7 vB (cput l8 x (.pointer (some ⟨h0, 0, none⟩)) (cput l9 y (.pointer (some ⟨h1, 0, none⟩)) a6)))).eval ⟨some d3, .load tf (.tmp q3), y3, s3, e3, none⟩).run P w = .ok (.value vA) w := by simp [execOp, eval_tmp hA', LA w hm]
      rw [hrun, Oper.upon_value]
      exact ⟨true, l7, l8, l9, l10, l11, h0, h1, rfl, rfl, hm, k8, k9, kne, k10, k11⟩
    | 7, _ =>
      have e : l7 = false := by simpa [lst] using hfree
      subst e
      unfold wpOp
      rw [o7]
      simp only [Region.wanted, if_true]
      refine .inl ?_
      unfold Oper.wp
      have hrun : (execOp (cput l3 d3 vA (cput false d7 vB (cput l8 x (.pointer (some ⟨h0, 0, none⟩)) (cput l9 y (.pointer (some ⟨h1, 0, none⟩)) a6)))).eval ⟨some d7, .load tf (.tmp q7), y7, s7, e7, none⟩).run P w = .ok (.value vB) w := by simp [execOp, eval_tmp hB', LB w hm]
      rw [hrun, Oper.upon_value]
      exact ⟨l3, true, l8, l9, l10, l11, h0, h1, rfl, by rw [cput_put m1]; rfl, hm, k8, k9, kne, k10, k11⟩
    | 8, _ =>
      have e : l8 = false := by simpa [lst] using hfree
      subst e
      have e10 : l10 = false := by cases l10 <;> simp_all
      subst e10
      unfold wpOp
      rw [o8]
      simp only [Region.wanted, if_true]
      refine .inl ?_
      unfold Oper.wp
      have hrun : (execOp (cput l3 d3 vA (cput l7 d7 vB (cput false x (.pointer (some ⟨h0, 0, none⟩)) (cput l9 y (.pointer (some ⟨h1, 0, none⟩)) a6)))).eval ⟨some x, .alloc tf, y8, s8, e8, none⟩).run P w = .ok (.value (.pointer (some ⟨w.heap.size, 0, none⟩))) (w.alloc (.cells #[z] tf)) := by simp [execOp, hz]
      rw [hrun, Oper.upon_value]
      have hma : Mods (fun _ => False) w (w.alloc (.cells #[z] tf)) := Mods.alloc _ _ _
      have hc := cell_one w z tf
      have hob := heap_alloc_new w (.cells #[z] tf)
      refine ⟨l3, l7, true, l9, false, l11, w.heap.size, h1, rfl, by rw [cput_put m2, cput_put m4]; rfl, hm.trans hma, fun _ => ⟨hm.size, by simp, hc, fun j => by unfold World.frozen?; rw [hob]; simp⟩, fun e => ?_, fun _ e => ?_, fun e => by simp at e, k11⟩
      · obtain ⟨r1, r2, r3, r4⟩ := k9 e
        exact ⟨r1, Nat.lt_of_lt_of_le r2 hma.size, hma.cell r3 (fun h => h), fun j => by rw [World.frozen?_of_block (hma.block h1 r2 fun h => h)]; exact r4 j⟩
      · obtain ⟨r1, r2, _⟩ := k9 e
        omega
    | 9, _ =>
      have e : l9 = false := by simpa [lst] using hfree
      subst e
      have e11 : l11 = false := by cases l11 <;> simp_all
      subst e11
      unfold wpOp
      rw [o9]
      simp only [Region.wanted, if_true]
      refine .inl ?_
      unfold Oper.wp
      have hrun : (execOp (cput l3 d3 vA (cput l7 d7 vB (cput l8 x (.pointer (some ⟨h0, 0, none⟩)) (cput false y (.pointer (some ⟨h1, 0, none⟩)) a6)))).eval ⟨some y, .alloc tf, y9, s9, e9, none⟩).run P w = .ok (.value (.pointer (some ⟨w.heap.size, 0, none⟩))) (w.alloc (.cells #[z] tf)) := by simp [execOp, hz]
      rw [hrun, Oper.upon_value]
      have hma : Mods (fun _ => False) w (w.alloc (.cells #[z] tf)) := Mods.alloc _ _ _
      have hc := cell_one w z tf
      have hob := heap_alloc_new w (.cells #[z] tf)
      refine ⟨l3, l7, l8, true, l10, false, h0, w.heap.size, rfl, by rw [cput_put m3, cput_put m5, cput_put m6]; rfl, hm.trans hma, fun e => ?_, fun _ => ⟨hm.size, by simp, hc, fun j => by unfold World.frozen?; rw [hob]; simp⟩, fun e _ => ?_, k10, fun e => by simp at e⟩
      · obtain ⟨r1, r2, r3, r4⟩ := k8 e
        exact ⟨r1, Nat.lt_of_lt_of_le r2 hma.size, hma.cell r3 (fun h => h), fun j => by rw [World.frozen?_of_block (hma.block h0 r2 fun h => h)]; exact r4 j⟩
      · obtain ⟨r1, r2, _⟩ := k8 e
        omega
    | 10, _ =>
      obtain ⟨e3, e8⟩ := (hdep l3 l7 l8 l9 l10 l11).1 (by simpa using hr0)
      subst e3 e8
      have e10 : l10 = false := by simpa [lst] using hfree
      subst e10
      obtain ⟨r1, r2, r3, r4⟩ := k8 rfl
      have hx : (cput true d3 vA (cput l7 d7 vB (cput true x (.pointer (some ⟨h0, 0, none⟩)) (cput l9 y (.pointer (some ⟨h1, 0, none⟩)) a6)))).tmps[x]? = some (.pointer (some ⟨h0, 0, none⟩)) := cput_ne (cput_ne (put_at (n := n) (by rw [cput_size, hs]) b3) m4) m2
      have hv : (cput true d3 vA (cput l7 d7 vB (cput true x (.pointer (some ⟨h0, 0, none⟩)) (cput l9 y (.pointer (some ⟨h1, 0, none⟩)) a6)))).tmps[d3]? = some vA := put_at (n := n) (by simp only [cput_size, hs]) b1
      unfold wpOp
      rw [o10]
      simp only [Region.wanted, if_true]
      refine .inl ?_
      unfold Oper.wp
      rw [SA _ w h0 _ (eval_tmp hx) (eval_tmp hv) r3 (r4 0), Oper.upon_skip]
      have hms : Mods (fun k => k = h0) w (w.setCell ⟨h0, 0, none⟩ vA) := Mods.setCell (F := fun k => k = h0) (a := ⟨h0, 0, none⟩) rfl _
      refine ⟨true, l7, true, l9, true, l11, h0, h1, rfl, rfl, hm.step hms fun k hk e => by omega, fun _ => ⟨r1, by simpa using r2, World.cell?_setCell_same w _ _ r3, fun j => by simpa using r4 j⟩, fun e => ?_, kne, fun _ => rfl, k11⟩
      obtain ⟨t1, t2, t3, t4⟩ := k9 e
      exact ⟨t1, by simpa using t2, by rw [World.cell?_setCell_other _ _ _ _ (fun e2 => kne rfl e (congrArg Addr.block e2))]; exact t3, fun j => by simpa using t4 j⟩
    | 11, _ =>
      obtain ⟨e7, e9⟩ := (hdep l3 l7 l8 l9 l10 l11).2.1 (by simpa using hr0)
      subst e7 e9
      have e11 : l11 = false := by simpa [lst] using hfree
      subst e11
      obtain ⟨r1, r2, r3, r4⟩ := k9 rfl
      have hx : (cput l3 d3 vA (cput true d7 vB (cput l8 x (.pointer (some ⟨h0, 0, none⟩)) (cput true y (.pointer (some ⟨h1, 0, none⟩)) a6)))).tmps[y]? = some (.pointer (some ⟨h1, 0, none⟩)) := cput_ne (cput_ne (cput_ne (put_at (n := n) hs b4) m6) m5) m3
      have hv : (cput l3 d3 vA (cput true d7 vB (cput l8 x (.pointer (some ⟨h0, 0, none⟩)) (cput true y (.pointer (some ⟨h1, 0, none⟩)) a6)))).tmps[d7]? = some vB := cput_ne (put_at (n := n) (by simp only [cput_size, hs]) b2) m1
      unfold wpOp
      rw [o11]
      simp only [Region.wanted, if_true]
      refine .inl ?_
      unfold Oper.wp
      rw [SB _ w h1 _ (eval_tmp hx) (eval_tmp hv) r3 (r4 0), Oper.upon_skip]
      have hms : Mods (fun k => k = h1) w (w.setCell ⟨h1, 0, none⟩ vB) := Mods.setCell (F := fun k => k = h1) (a := ⟨h1, 0, none⟩) rfl _
      refine ⟨l3, true, l8, true, l10, true, h0, h1, rfl, rfl, hm.step hms fun k hk e => by omega, fun e => ?_, fun _ => ⟨r1, by simpa using r2, World.cell?_setCell_same w _ _ r3, fun j => by simpa using r4 j⟩, kne, k10, fun _ => rfl⟩
      obtain ⟨t1, t2, t3, t4⟩ := k8 e
      exact ⟨t1, by simpa using t2, by rw [World.cell?_setCell_other _ _ _ _ (fun e2 => kne e rfl (congrArg Addr.block e2).symm)]; exact t3, fun j => by simpa using t4 j⟩
  · rintro listed a w ⟨l3, l7, l8, l9, l10, l11, h0, h1, rfl, rfl, hm, k8, k9, kne, k10, k11⟩ hr
    obtain ⟨⟨e3, e7⟩, ⟨e8, e9⟩, e10, e11⟩ := (hdep l3 l7 l8 l9 l10 l11).2.2 hr
    subst e3 e7 e8 e9 e10 e11
    obtain ⟨r1, r2, r3, r4⟩ := k8 rfl
    obtain ⟨t1, t2, t3, t4⟩ := k9 rfl
    exact hQ h0 h1 w (kne rfl rfl) r1 t1 hm r3 t3 ⟨r2, r4⟩ ⟨t2, t4⟩
  · exact ⟨false, false, false, false, false, false, 0, 0, rfl, rfl, Mods.refl _ _, fun e => by simp at e, fun e => by simp at e, fun e => by simp at e, fun e => by simp at e, fun e => by simp at e⟩

end Go.Proofs.Ytanknjpcgceccaa
