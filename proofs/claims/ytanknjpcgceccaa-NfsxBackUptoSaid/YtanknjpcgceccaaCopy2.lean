/- 'x, y := a, b' of two structs that are boxed: a drawn region of two loads, two allocs, two stores, in whatever order. No program. -/
import Derived.Test.YtanknjpcgceccaaChain
import Derived.Test.YtanknjpcgceccaaApi
import Derived.Orders
namespace Go.Proofs.Ytanknjpcgceccaa

theorem wpAny_inv {P : Program} {ops : Array Oper} {Q : Exit → Act → World → Prop} {md : Region.Mode} (J : Array Bool → Act → World → Prop)
    (hstep : ∀ listed a w i, J listed a w → i ∈ Region.ready md ops listed → wpOp P ops Q i (fun a' w' => J (listed.setIfInBounds i true) a' w') a w)
    (hend : ∀ listed a w, J listed a w → Region.ready md ops listed = [] → Q .normal a w) :
    ∀ (fuel : Nat) (listed : Array Bool) (a : Act) (w : World), listed.size = ops.size → (listed.toList.count false ≤ fuel) → J listed a w → wpAny P md ops Q fuel listed a w
  | 0, listed, a, w, hs, hf, h => by
    have hr : Region.ready md ops listed = [] := by
      rw [List.eq_nil_iff_forall_not_mem]
      intro i hi
      simp only [Region.ready, List.mem_filter, List.mem_range, Bool.and_eq_true, Bool.not_eq_true'] at hi
      obtain ⟨hi1, hi2, _⟩ := hi
      have h1 : listed.toList[i]? = some false := by
        have : i < listed.size := by omega
        rw [Array.getD_eq_getD_getElem?] at hi2
        simp [this] at hi2 ⊢
        exact hi2
      have h2 : false ∈ listed.toList := List.mem_of_getElem? h1
      have := List.count_pos_iff.2 h2
      omega
    exact ⟨hr, hend _ _ _ h hr⟩
  | fuel + 1, listed, a, w, hs, hf, h => by
    refine ⟨fun hr => hend _ _ _ h hr, fun i hi => ?_⟩
    have hi0 := hi
    simp only [Region.ready, List.mem_filter, List.mem_range, Bool.and_eq_true, Bool.not_eq_true'] at hi
    obtain ⟨hi1, hi2, _⟩ := hi
    have hlt : i < listed.size := by omega
    have hval : listed[i] = false := by
      rw [Array.getD_eq_getD_getElem?] at hi2
      simpa [hlt] using hi2
    have hcount : (listed.setIfInBounds i true).toList.count false + 1 = listed.toList.count false := by
      rw [Array.toList_setIfInBounds]
      have h1 := List.count_set (l := listed.toList) (i := i) (a := true) (b := false) (by simpa using hlt)
      have h2 : listed.toList[i]'(by simpa using hlt) = false := by simpa using hval
      have h3 : 0 < listed.toList.count false := List.count_pos_iff.2 (h2 ▸ List.getElem_mem _)
      have h4 : (listed.toList[i]'(by simpa using hlt) == false) = true := by rw [h2]; rfl
      rw [h1, if_pos h4, if_neg (by decide)]
      omega
    exact wpOp_mono (fun a' w' hJ => wpAny_inv J hstep hend fuel _ a' w' (by simpa using hs) (by omega) hJ) (hstep _ _ _ _ h hi0)


theorem there_lt {w : World} {h N : Nat} (ht : w.there h 0 N) (hN : 0 < N) : h < w.heap.size := by
  have h1 := (ht 0 hN).1
  obtain ⟨v, hv⟩ := Option.isSome_iff_exists.1 h1
  exact World.block_lt_of_cell? w ⟨h, 0 + 0, none⟩ hv
theorem there_keep {w w' : World} {h N : Nat} (ht : w.there h 0 N) {F : Nat → Prop} (hm : Mods F w w') (hF : ¬ F h) : w'.there h 0 N := fun j hj => by
  obtain ⟨v, hv⟩ := Option.isSome_iff_exists.1 (ht j hj).1
  refine ⟨by rw [hm.cell hv hF]; rfl, ?_⟩
  rw [World.frozen?_of_block (w := w) (hm.block h (World.block_lt_of_cell? w ⟨h, 0 + j, none⟩ hv) hF)]
  exact (ht j hj).2
theorem there_new (w : World) (l : List Value) (t : TypeId) (N : Nat) (hl : l.length = N) : (w.alloc (.cells l.toArray t)).there w.heap.size 0 N := fun j hj => by
  have h : (w.alloc (.cells l.toArray t)).heap[w.heap.size]? = some (.cells l.toArray t (0, 0)) := heap_alloc_new w _
  refine ⟨?_, by unfold World.frozen?; rw [h]; simp⟩
  rw [cell_of_row _ _ _ _ _ _ h]
  simp; omega
theorem Mods.setCells {F : Nat → Prop} {w : World} {b o : Nat} (vs : List Value) (h : F b) : Mods F w (w.setCells b o vs) := by
  induction vs generalizing w o with
  | nil => exact Mods.refl _ _
  | cons v r ih => exact (Mods.setCell (a := ⟨b, o, none⟩) h v).trans ih

set_option maxHeartbeats 1000000 in
theorem wp_copy2 {P : Program} {Q : Exit → Act → World → Prop} {id T n N s13 s14 s5 s6 : Nat} {ops : Array Oper} {a : Act} {w0 : World} {g0 g1 : Nat} {A B Z : List Value} {d : TypeDesc} {y0 y1 y2 y3 y4 y5 : TypeId} {p0 p1 p2 p3 p4 p5 : String} {e0 e1 e2 e3 e4 e5 : Array Edge}
    (hmix : P.follows .mixedOrders = true)
    (o0 : ops[0]? = some ⟨some s13, .load T (.tmp 2), y0, p0, e0, none⟩) (o1 : ops[1]? = some ⟨some s14, .load T (.tmp 3), y1, p1, e1, none⟩)
    (o2 : ops[2]? = some ⟨some s5, .alloc T, y2, p2, e2, none⟩) (o3 : ops[3]? = some ⟨some s6, .alloc T, y3, p3, e3, none⟩)
    (o4 : ops[4]? = some ⟨none, .store T (.tmp s5) (.tmp s13), y4, p4, e4, none⟩) (o5 : ops[5]? = some ⟨none, .store T (.tmp s6) (.tmp s14), y5, p5, e5, none⟩)
    (hsz : ops.size = 6)
    (hdep : ∀ listed : Array Bool, listed.size = 6 → (4 ∈ Region.ready .any ops listed → listed[0]? = some true ∧ listed[2]? = some true) ∧ (5 ∈ Region.ready .any ops listed → listed[1]? = some true ∧ listed[3]? = some true) ∧
      (Region.ready .any ops listed = [] → ∀ i, i < 6 → listed[i]? = some true))
    (hne : (s13 ≠ 2 ∧ s13 ≠ 3 ∧ s13 ≠ 4) ∧ (s14 ≠ 2 ∧ s14 ≠ 3 ∧ s14 ≠ 4) ∧ (s5 ≠ 2 ∧ s5 ≠ 3 ∧ s5 ≠ 4) ∧ (s6 ≠ 2 ∧ s6 ≠ 3 ∧ s6 ≠ 4) ∧ s13 ≠ s14 ∧ s13 ≠ s5 ∧ s13 ≠ s6 ∧ s14 ≠ s5 ∧ s14 ≠ s6 ∧ s5 ≠ s6 ∧ (s13 < n ∧ s14 < n ∧ s5 < n ∧ s6 < n))
    (hI : Inv a n 2 3 (.pointer (some ⟨g0, 0, none⟩)) (.pointer (some ⟨g1, 0, none⟩)) 4 false) (hA : w0.rangeAt g0 0 A) (hB : w0.rangeAt g1 0 B)
    (hu : P.underlying T = some d) (hd : d.isRow = true) (hi : (P.info? T).map (·.size) = some N) (hZl : Z.length = N) (hAl : A.length = N) (hBl : B.length = N) (hN : 0 < N)
    (hA1 : A.toArray.all (·.oneCell') = true) (hB1 : B.toArray.all (·.oneCell') = true)
    (hz : ∀ w : World, (Instr.alloc T true (.tuple #[])).run P w = .ok (.pointer (some ⟨w.heap.size, 0, none⟩)) (w.alloc (.cells Z.toArray T)))
    (h : ∀ a' w' h0 h1, Inv a' n s5 s6 (.pointer (some ⟨h0, 0, none⟩)) (.pointer (some ⟨h1, 0, none⟩)) 4 false → Mods (fun _ => False) w0 w' → w'.rangeAt h0 0 A → w'.rangeAt h1 0 B → w'.there h0 0 N → w'.there h1 0 N → h0 ≠ h1 → w0.heap.size ≤ h0 → w0.heap.size ≤ h1 → Q .normal a' w') :
    (Code.region id ops true).wp P Q a w0 := by
  obtain ⟨⟨n1, n2, n3⟩, ⟨n4, n5, n6⟩, ⟨n7, n8, n9⟩, ⟨n10, n11, n12⟩, m1, m2, m3, m4, m5, m6, l1, l2, l3, l4⟩ := hne
  refine wp_region_any hmix (wpAny_inv (fun listed a w => listed.size = 6 ∧ Inv a n 2 3 (.pointer (some ⟨g0, 0, none⟩)) (.pointer (some ⟨g1, 0, none⟩)) 4 false ∧ Mods (fun _ => False) w0 w ∧
    (listed[0]? = some true → a.tmps[s13]? = some (.agg A.toArray)) ∧ (listed[1]? = some true → a.tmps[s14]? = some (.agg B.toArray)) ∧
    (listed[2]? = some true → ∃ h, a.tmps[s5]? = some (.pointer (some ⟨h, 0, none⟩)) ∧ w0.heap.size ≤ h ∧ w.there h 0 N ∧ (listed[4]? = some true → w.rangeAt h 0 A) ∧ (∀ h', listed[3]? = some true → a.tmps[s6]? = some (.pointer (some ⟨h', 0, none⟩)) → h ≠ h')) ∧
    (listed[3]? = some true → ∃ h, a.tmps[s6]? = some (.pointer (some ⟨h, 0, none⟩)) ∧ w0.heap.size ≤ h ∧ w.there h 0 N ∧ (listed[5]? = some true → w.rangeAt h 0 B)) ∧ (listed[4]? = some true → listed[2]? = some true) ∧ (listed[5]? = some true → listed[3]? = some true)) ?_ ?_ _ _ _ _ (by simp) (by simp [hsz]) ?_)
  · rintro listed a w i ⟨hs, hI, hm, k0, k1, k2, k3, k4, k5⟩ hr
    have hr0 := hr
    simp only [Region.ready, List.mem_filter, List.mem_range, Bool.and_eq_true, Bool.not_eq_true', hsz] at hr
    obtain ⟨hi6, hfree, _⟩ := hr
    have hset : ∀ j : Nat, (listed.setIfInBounds i true)[j]? = some true → j = i ∨ listed[j]? = some true := by
      intro j hj
      by_cases e : i = j
      · exact .inl e.symm
      · rw [Array.getElem?_setIfInBounds_ne e] at hj; exact .inr hj
    have hkeep : ∀ j : Nat, listed[j]? = some true → (listed.setIfInBounds i true)[j]? = some true := by
      intro j hj
      by_cases e : i = j
      · subst e; exact Array.getElem?_setIfInBounds_self_of_lt (by omega)
      · rw [Array.getElem?_setIfInBounds_ne e]; exact hj
    have hfr : listed[i]? ≠ some true := by
      rw [Array.getD_eq_getD_getElem?] at hfree
      intro e; rw [e] at hfree; simp at hfree
    have hAw := rangeAt_keep hA hm (fun h => h)
    have hBw := rangeAt_keep hB hm (fun h => h)
    match i, hi6 with
    | 0, _ =>
      unfold wpOp
      rw [o0]
      simp only [Region.wanted, if_true]
      refine .inl ?_
      unfold Oper.wp
      have hrun : (execOp a.eval ⟨some s13, .load T (.tmp 2), y0, p0, e0, none⟩).run P w = .ok (.value (.agg A.toArray)) w := by
        simp [execOp, eval_tmp hI.hp, run_loadAt_mid w g0 0 T A d hAw hu hd (by rw [hi, hAl])]
      rw [hrun, Oper.upon_value]
      have hI1 := hI.put (v := .agg A.toArray) ⟨n1, n2, n3⟩
      refine ⟨by simp [hs], hI1, hm, fun _ => put_at hI.size l1, fun e => put_ne (k1 ((hset 1 e).resolve_left (by decide))) m1, fun e => ?_, fun e => ?_, fun e => hkeep 2 (k4 ((hset 4 e).resolve_left (by decide))), fun e => hkeep 3 (k5 ((hset 5 e).resolve_left (by decide)))⟩
      · obtain ⟨h, q1, q2, q3, q4, q5⟩ := k2 ((hset 2 e).resolve_left (by decide))
        refine ⟨h, put_ne q1 m2, q2, q3, fun e4 => q4 ((hset 4 e4).resolve_left (by decide)), fun h' e3 e6 => ?_⟩
        obtain ⟨h3, r1, _⟩ := k3 ((hset 3 e3).resolve_left (by decide))
        have r2 := put_ne (v := .agg A.toArray) r1 m3
        rw [r2] at e6
        have := q5 h3 ((hset 3 e3).resolve_left (by decide)) r1
        simp at e6; omega
      · obtain ⟨h, q1, q2, q3, q4⟩ := k3 ((hset 3 e).resolve_left (by decide))
        exact ⟨h, put_ne q1 m3, q2, q3, fun e4 => q4 ((hset 5 e4).resolve_left (by decide))⟩
    | 1, _ =>
      unfold wpOp
      rw [o1]
      simp only [Region.wanted, if_true]
      refine .inl ?_
      unfold Oper.wp
      have hrun : (execOp a.eval ⟨some s14, .load T (.tmp 3), y1, p1, e1, none⟩).run P w = .ok (.value (.agg B.toArray)) w := by
        simp [execOp, eval_tmp hI.hq, run_loadAt_mid w g1 0 T B d hBw hu hd (by rw [hi, hBl])]
      rw [hrun, Oper.upon_value]
      have hI1 := hI.put (v := .agg B.toArray) ⟨n4, n5, n6⟩
      refine ⟨by simp [hs], hI1, hm, fun e => put_ne (k0 ((hset 0 e).resolve_left (by decide))) (Ne.symm m1), fun _ => put_at hI.size l2, fun e => ?_, fun e => ?_, fun e => hkeep 2 (k4 ((hset 4 e).resolve_left (by decide))), fun e => hkeep 3 (k5 ((hset 5 e).resolve_left (by decide)))⟩
      · obtain ⟨h, q1, q2, q3, q4, q5⟩ := k2 ((hset 2 e).resolve_left (by decide))
        refine ⟨h, put_ne q1 m4, q2, q3, fun e4 => q4 ((hset 4 e4).resolve_left (by decide)), fun h' e3 e6 => ?_⟩
        obtain ⟨h3, r1, _⟩ := k3 ((hset 3 e3).resolve_left (by decide))
        have r2 := put_ne (v := .agg B.toArray) r1 m5
        rw [r2] at e6
        have := q5 h3 ((hset 3 e3).resolve_left (by decide)) r1
        simp at e6; omega
      · obtain ⟨h, q1, q2, q3, q4⟩ := k3 ((hset 3 e).resolve_left (by decide))
        exact ⟨h, put_ne q1 m5, q2, q3, fun e4 => q4 ((hset 5 e4).resolve_left (by decide))⟩
    | 2, _ =>
      unfold wpOp
      rw [o2]
      simp only [Region.wanted, if_true]
      refine .inl ?_
      unfold Oper.wp
      have hrun : (execOp a.eval ⟨some s5, .alloc T, y2, p2, e2, none⟩).run P w = .ok (.value (.pointer (some ⟨w.heap.size, 0, none⟩))) (w.alloc (.cells Z.toArray T)) := by
        simp [execOp, hz]
      rw [hrun, Oper.upon_value]
      have hI1 := hI.put (v := .pointer (some ⟨w.heap.size, 0, none⟩)) ⟨n7, n8, n9⟩
      have hma : Mods (fun _ => False) w (w.alloc (.cells Z.toArray T)) := Mods.alloc _ _ _
      refine ⟨by simp [hs], hI1, hm.trans hma, fun e => put_ne (k0 ((hset 0 e).resolve_left (by decide))) (Ne.symm m2), fun e => put_ne (k1 ((hset 1 e).resolve_left (by decide))) (Ne.symm m4), fun e => ?_, fun e => ?_, fun e => hkeep 2 (k4 ((hset 4 e).resolve_left (by decide))), fun e => hkeep 3 (k5 ((hset 5 e).resolve_left (by decide)))⟩
      · refine ⟨w.heap.size, put_at hI.size l3, hm.size, there_new w Z T N hZl, fun e4 => ?_, fun h' e3 e6 => ?_⟩
        · exact absurd (k4 ((hset 4 e4).resolve_left (by decide))) hfr
        · obtain ⟨h3, r1, _, r3, _⟩ := k3 ((hset 3 e3).resolve_left (by decide))
          have r2 := put_ne (v := .pointer (some ⟨w.heap.size, 0, none⟩)) r1 m6
          rw [r2] at e6
          have := there_lt r3 hN
          simp at e6; omega
      · obtain ⟨h, q1, q2, q3, q4⟩ := k3 ((hset 3 e).resolve_left (by decide))
        exact ⟨h, put_ne q1 m6, q2, there_keep q3 hma (fun h => h), fun e4 => rangeAt_keep (q4 ((hset 5 e4).resolve_left (by decide))) hma (fun h => h)⟩
    | 3, _ =>
      unfold wpOp
      rw [o3]
      simp only [Region.wanted, if_true]
      refine .inl ?_
      unfold Oper.wp
      have hrun : (execOp a.eval ⟨some s6, .alloc T, y3, p3, e3, none⟩).run P w = .ok (.value (.pointer (some ⟨w.heap.size, 0, none⟩))) (w.alloc (.cells Z.toArray T)) := by
        simp [execOp, hz]
      rw [hrun, Oper.upon_value]
      have hI1 := hI.put (v := .pointer (some ⟨w.heap.size, 0, none⟩)) ⟨n10, n11, n12⟩
      have hma : Mods (fun _ => False) w (w.alloc (.cells Z.toArray T)) := Mods.alloc _ _ _
      refine ⟨by simp [hs], hI1, hm.trans hma, fun e => put_ne (k0 ((hset 0 e).resolve_left (by decide))) (Ne.symm m3), fun e => put_ne (k1 ((hset 1 e).resolve_left (by decide))) (Ne.symm m5), fun e => ?_, fun e => ?_, fun e => hkeep 2 (k4 ((hset 4 e).resolve_left (by decide))), fun e => hkeep 3 (k5 ((hset 5 e).resolve_left (by decide)))⟩
      · obtain ⟨h, q1, q2, q3, q4, q5⟩ := k2 ((hset 2 e).resolve_left (by decide))
        refine ⟨h, put_ne q1 (Ne.symm m6), q2, there_keep q3 hma (fun h => h), fun e4 => rangeAt_keep (q4 ((hset 4 e4).resolve_left (by decide))) hma (fun h => h), fun h' e3 e6 => ?_⟩
        rw [put_at hI.size l4] at e6
        have := there_lt q3 hN
        simp at e6; omega
      · exact ⟨w.heap.size, put_at hI.size l4, hm.size, there_new w Z T N hZl, fun e5 => absurd (k5 ((hset 5 e5).resolve_left (by decide))) hfr⟩
    | 4, _ =>
      obtain ⟨d0, d2⟩ := (hdep listed hs).1 hr0
      obtain ⟨h, q1, q2, q3, q4, q5⟩ := k2 d2
      unfold wpOp
      rw [o4]
      simp only [Region.wanted, if_true]
      refine .inl ?_
      unfold Oper.wp
      have hrun : (execOp a.eval ⟨none, .store T (.tmp s5) (.tmp s13), y4, p4, e4, none⟩).run P w = .ok .skip (w.setCells h 0 A.toArray.toList) := by
        simp only [execOp, eval_tmp q1, eval_tmp (k0 d0), Sem.run_bind, run_storeAt_mid w h 0 T A.toArray (by simpa [hAl] using q3) (by rw [hi]; simp [hAl]) hA1]
        rfl
      rw [hrun, Oper.upon_skip]
      have hms : Mods (fun k => k = h) w (w.setCells h 0 A.toArray.toList) := Mods.setCells _ rfl
      refine ⟨by simp [hs], hI, hm.step hms fun k hk e => absurd hk (by omega), fun e => k0 ((hset 0 e).resolve_left (by decide)), fun e => k1 ((hset 1 e).resolve_left (by decide)), fun e => ?_, fun e => ?_, fun e => hkeep 2 d2, fun e => hkeep 3 (k5 ((hset 5 e).resolve_left (by decide)))⟩
      · exact ⟨h, q1, q2, World.there_setCells q3 _ _ _, fun _ => World.rangeAt_setCells_same w h 0 A (by simpa [hAl] using q3), fun h' e3 e6 => q5 h' ((hset 3 e3).resolve_left (by decide)) e6⟩
      · obtain ⟨h', r1, r2, r3, r4⟩ := k3 ((hset 3 e).resolve_left (by decide))
        exact ⟨h', r1, r2, World.there_setCells r3 _ _ _, fun e5 => World.rangeAt_setCells_apart (r4 ((hset 5 e5).resolve_left (by decide))) _ _ _ (.inl fun e => q5 h' ((hset 3 ‹_›).resolve_left (by decide)) r1 e.symm)⟩
    | 5, _ =>
      obtain ⟨d1, d3⟩ := (hdep listed hs).2.1 hr0
      obtain ⟨h', r1, r2, r3, r4⟩ := k3 d3
      unfold wpOp
      rw [o5]
      simp only [Region.wanted, if_true]
      refine .inl ?_
      unfold Oper.wp
      have hrun : (execOp a.eval ⟨none, .store T (.tmp s6) (.tmp s14), y5, p5, e5, none⟩).run P w = .ok .skip (w.setCells h' 0 B.toArray.toList) := by
        simp only [execOp, eval_tmp r1, eval_tmp (k1 d1), Sem.run_bind, run_storeAt_mid w h' 0 T B.toArray (by simpa [hBl] using r3) (by rw [hi]; simp [hBl]) hB1]
        rfl
      rw [hrun, Oper.upon_skip]
      have hms : Mods (fun k => k = h') w (w.setCells h' 0 B.toArray.toList) := Mods.setCells _ rfl
      refine ⟨by simp [hs], hI, hm.step hms fun k hk e => absurd hk (by omega), fun e => k0 ((hset 0 e).resolve_left (by decide)), fun e => k1 ((hset 1 e).resolve_left (by decide)), fun e => ?_, fun e => ?_, fun e => hkeep 2 (k4 ((hset 4 e).resolve_left (by decide))), fun e => hkeep 3 d3⟩
      · obtain ⟨h, q1, q2, q3, q4, q5⟩ := k2 ((hset 2 e).resolve_left (by decide))
        exact ⟨h, q1, q2, World.there_setCells q3 _ _ _, fun e4 => World.rangeAt_setCells_apart (q4 ((hset 4 e4).resolve_left (by decide))) _ _ _ (.inl fun e => q5 h' d3 r1 e), fun h2 e3 e6 => q5 h2 ((hset 3 e3).resolve_left (by decide)) e6⟩
      · exact ⟨h', r1, r2, World.there_setCells r3 _ _ _, fun _ => World.rangeAt_setCells_same w h' 0 B (by simpa [hBl] using r3)⟩
  · rintro listed a w ⟨hs, hI, hm, k0, k1, k2, k3, k4, k5⟩ hr
    have hall := (hdep listed hs).2.2 hr
    obtain ⟨h0, q1, q2, q3, q4, q5⟩ := k2 (hall 2 (by decide))
    obtain ⟨h1, r1, r2, r3, r4⟩ := k3 (hall 3 (by decide))
    exact h a w h0 h1 ⟨hI.size, hI.defers, q1, r1, hI.hm⟩ hm (q4 (hall 4 (by decide))) (r4 (hall 5 (by decide))) q3 r3 (q5 h1 (hall 3 (by decide)) r1) q2 r2
  · refine ⟨by simp [hsz], ⟨hI.size, hI.defers, hI.hp, hI.hq, hI.hm⟩, ⟨rfl, rfl, rfl, Nat.le_refl _, fun _ _ _ => rfl⟩, ?_, ?_, ?_, ?_, ?_, ?_⟩ <;> (intro e; simp [hsz, Array.getElem?_replicate] at e)

end Go.Proofs.Ytanknjpcgceccaa
