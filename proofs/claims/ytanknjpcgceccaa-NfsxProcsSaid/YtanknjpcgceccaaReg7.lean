/- A drawn region of six operations that read, and a call of what they read. No program. -/
import Derived.Test.YtanknjpcgceccaaChain
import Derived.Test.YtanknjpcgceccaaSeq
namespace Go.Proofs.Ytanknjpcgceccaa

theorem put_comm (a : Act) {d e : Nat} (u v : Value) (h : d ≠ e) : (a.put (some d) u).put (some e) v = (a.put (some e) v).put (some d) u := by
  simp only [Act.put]
  congr 1
  exact Array.setIfInBounds_comm _ _ h

/-- 'o.W.Put(x.f)' -/
def put7 (t0 tg d T T2 i0 i tl tf : Nat) (y0 y1 y2 y3 y4 y5 y6 : TypeId) (s : String) (at_ : Array TypeId) (f : FuncId) : Array Oper :=
  #[⟨some d, .move (.tmp t0), y0, s, #[], none⟩, ⟨some (d + 1), .nilCheck (.tmp d), y1, s, #[⟨0, .data⟩], none⟩, ⟨some (d + 2), .fieldAddr T (.tmp (d + 1)) i0, y2, s, #[⟨1, .data⟩], none⟩, ⟨some (d + 3), .load tl (.tmp (d + 2)), y3, s, #[⟨2, .data⟩], none⟩,
      ⟨some (d + 4), .fieldAddr T2 (.tmp tg) i, y4, s, #[], none⟩, ⟨some (d + 5), .load tf (.tmp (d + 4)), y5, s, #[⟨4, .data⟩], none⟩,
      ⟨some (d + 6), .call { callee := .value (.func f), args := #[.tmp (d + 3), .tmp (d + 5)], argTypes := at_ }, y6, s, #[⟨3, .data⟩, ⟨5, .data⟩], none⟩]
def put7B (l : Array Oper) : Bool :=
  let s0 := Array.replicate 7 false
  let s1 := s0.setIfInBounds 0 true
  let s2 := s1.setIfInBounds 1 true
  let s3 := s2.setIfInBounds 2 true
  let s4 := s3.setIfInBounds 4 true
  let s5 := s4.setIfInBounds 3 true
  let s5' := s4.setIfInBounds 5 true
  let s6 := s5.setIfInBounds 5 true
  let s6' := s5'.setIfInBounds 3 true
  let s7 := s6.setIfInBounds 6 true
  let s7' := s6'.setIfInBounds 6 true
  let R := Region.ready .any l
  Region.noSelect l && (Region.free .any l s0 0 && (R s0).contains 0) && (Region.free .any l s1 1 && (R s1).contains 1) && (Region.free .any l s2 2 && (R s2).contains 2) && (Region.free .any l s3 4 && (R s3).contains 4) &&
    (R s4 == [3, 5]) && (R s5 == [5]) && (R s5' == [3]) && (R s6 == [6]) && (R s6' == [6]) && (R s7 == []) && (R s7' == [])

set_option maxHeartbeats 1000000 in
/-- 'o.W.Put(x.f)' -/
theorem wp_put7 {P : Program} (hm : P.follows .mixedOrders = true) {id t0 tg d T T2 i0 i tl tf : Nat} {y0 y1 y2 y3 y4 y5 y6 : TypeId} {s : String} {at_ : Array TypeId} {f : FuncId} {n : Nat} {pc pw pg p1 pf v : Value} {a : Act} {w : World} {Q : Exit → Act → World → Prop} (hp : ∀ c (a : Act) (d : Nat) v w, Q (.panic c) (a.put (some d) v) w → Q (.panic c) a w)
    {l : Array Oper} (hl : l = put7 t0 tg d T T2 i0 i tl tf y0 y1 y2 y3 y4 y5 y6 s at_ f) (hB : put7B l = true)
    (hs : a.tmps.size = n) (h0 : a.tmps[t0]? = some pc) (hg : a.tmps[tg]? = some pg) (hd : t0 < d ∧ tg < d ∧ d + 6 < n)
    (hN : ∀ w, (execOp (fun _ => pc) ⟨some (d + 1), .nilCheck (.tmp d), y1, s, #[⟨0, .data⟩], none⟩).run P w = .ok (.value pc) w)
    (hE : ∀ (a : Act) (w : World), a.eval (.tmp (d + 3)) = pw → a.eval (.tmp (d + 5)) = v → (execOp a.eval ⟨some (d + 6), .call { callee := .value (.func f), args := #[.tmp (d + 3), .tmp (d + 5)], argTypes := at_ }, y6, s, #[⟨3, .data⟩, ⟨5, .data⟩], none⟩).run P w = .ok (.enter f #[pw, v]) w)
    (hF0 : ∀ w, (Instr.fieldAt T pc i0).run P w = .ok p1 w) (hL0 : (Instr.loadAt tl p1).run P w.drew = .ok pw w.drew)
    (hF1 : ∀ w, (Instr.fieldAt T2 pg i).run P w = .ok pf w) (hL1 : (Instr.loadAt tf pf).run P w.drew = .ok v w.drew)
    (hc : Calls P f #[pw, v] w.drew fun e w' => ∃ r, e = .returned r ∧ Q .normal (((((((a.put (some d) pc).put (some (d + 1)) pc).put (some (d + 2)) p1).put (some (d + 3)) pw).put (some (d + 4)) pf).put (some (d + 5)) v).put (some (d + 6)) r) w') :
    (Code.region id l true).wp P Q a w := by
  simp only [put7B, Bool.and_eq_true, beq_iff_eq] at hB
  obtain ⟨⟨⟨⟨⟨⟨⟨⟨⟨⟨⟨hsel, b0, c0⟩, b1, c1⟩, b2, c2⟩, b4, c4⟩, r4⟩, r5⟩, r5'⟩, r6⟩, r6'⟩, r7⟩, r7'⟩ := hB
  obtain ⟨hd1, hd2, hd3⟩ := hd
  have o0 : l[0]? = some ⟨some d, .move (.tmp t0), y0, s, #[], none⟩ := by rw [hl]; rfl
  have o1 : l[1]? = some ⟨some (d + 1), .nilCheck (.tmp d), y1, s, #[⟨0, .data⟩], none⟩ := by rw [hl]; rfl
  have o2 : l[2]? = some ⟨some (d + 2), .fieldAddr T (.tmp (d + 1)) i0, y2, s, #[⟨1, .data⟩], none⟩ := by rw [hl]; rfl
  have o3 : l[3]? = some ⟨some (d + 3), .load tl (.tmp (d + 2)), y3, s, #[⟨2, .data⟩], none⟩ := by rw [hl]; rfl
  have o4 : l[4]? = some ⟨some (d + 4), .fieldAddr T2 (.tmp tg) i, y4, s, #[], none⟩ := by rw [hl]; rfl
  have o5 : l[5]? = some ⟨some (d + 5), .load tf (.tmp (d + 4)), y5, s, #[⟨4, .data⟩], none⟩ := by rw [hl]; rfl
  have o6 : l[6]? = some ⟨some (d + 6), .call { callee := .value (.func f), args := #[.tmp (d + 3), .tmp (d + 5)], argTypes := at_ }, y6, s, #[⟨3, .data⟩, ⟨5, .data⟩], none⟩ := by rw [hl]; rfl
  have hsz : l.size = 7 := by rw [hl]; rfl
  refine wp_region_any hm ?_
  rw [hsz]
  clear hl hsz
  show wpAny P .any l Q 7 (Array.replicate 7 false) a w.drew
  -- slots
  obtain ⟨a0, ha0⟩ : ∃ z, z = a.put (some d) pc := ⟨_, rfl⟩
  have s0 : a0.tmps.size = n := by rw [ha0, putsize, hs]
  have e0 : a0.tmps[d]? = some pc := by rw [ha0]; exact put_at hs (by omega)
  have g0 : a0.tmps[tg]? = some pg := by rw [ha0]; exact put_ne hg (by omega)
  obtain ⟨a1, ha1⟩ : ∃ z, z = a0.put (some (d + 1)) pc := ⟨_, rfl⟩
  have s1 : a1.tmps.size = n := by rw [ha1, putsize, s0]
  have e1 : a1.tmps[d + 1]? = some pc := by rw [ha1]; exact put_at s0 (by omega)
  have g1 : a1.tmps[tg]? = some pg := by rw [ha1]; exact put_ne g0 (by omega)
  obtain ⟨a2, ha2⟩ : ∃ z, z = a1.put (some (d + 2)) p1 := ⟨_, rfl⟩
  have s2 : a2.tmps.size = n := by rw [ha2, putsize, s1]
  have e2 : a2.tmps[d + 2]? = some p1 := by rw [ha2]; exact put_at s1 (by omega)
  have g2 : a2.tmps[tg]? = some pg := by rw [ha2]; exact put_ne g1 (by omega)
  obtain ⟨a4, ha4⟩ : ∃ z, z = a2.put (some (d + 4)) pf := ⟨_, rfl⟩
  have s4 : a4.tmps.size = n := by rw [ha4, putsize, s2]
  have e4 : a4.tmps[d + 4]? = some pf := by rw [ha4]; exact put_at s2 (by omega)
  have e42 : a4.tmps[d + 2]? = some p1 := by rw [ha4]; exact put_ne e2 (by omega)
  have want : ∀ (o : Oper) (a : Act), o.guard = none → Region.wanted o (yielded l a.tmps) = true := fun o a ho => by unfold Region.wanted; rw [ho]
  refine wpAny_take (i := 0) (v := pc) o0 hsel b0 c0 (fun c a w h => hp _ _ _ _ _ h) (Or.inl ⟨want _ _ rfl, fun w => ?_⟩) ?_
  · simp [execOp, eval_tmp h0]
  show wpAny P .any l Q 6 _ (a.put (some d) pc) _
  rw [← ha0]
  refine wpAny_take (i := 1) (v := pc) o1 hsel b1 c1 (fun c a w h => hp _ _ _ _ _ h) (Or.inl ⟨want _ _ rfl, fun w => ?_⟩) ?_
  · have := hN w
    simp only [execOp, eval_tmp e0] at this ⊢
    exact this
  show wpAny P .any l Q 5 _ (a0.put (some (d + 1)) pc) _
  rw [← ha1]
  refine wpAny_take (i := 2) (v := p1) o2 hsel b2 c2 (fun c a w h => hp _ _ _ _ _ h) (Or.inl ⟨want _ _ rfl, fun w => ?_⟩) ?_
  · simp [execOp, eval_tmp e1, hF0]
  show wpAny P .any l Q 4 _ (a1.put (some (d + 2)) p1) _
  rw [← ha2]
  refine wpAny_take (i := 4) (v := pf) o4 hsel b4 c4 (fun c a w h => hp _ _ _ _ _ h) (Or.inl ⟨want _ _ rfl, fun w => ?_⟩) ?_
  · simp [execOp, eval_tmp g2, hF1]
  show wpAny P .any l Q 3 _ (a2.put (some (d + 4)) pf) _
  rw [← ha4]
  have hput : (((a4.put (some (d + 3)) pw).put (some (d + 5)) v)) = ((((((a.put (some d) pc).put (some (d + 1)) pc).put (some (d + 2)) p1).put (some (d + 3)) pw).put (some (d + 4)) pf).put (some (d + 5)) v) := by
    rw [ha4, ha2, ha1, ha0, put_comm _ pf pw (by omega)]
  have hcall : ∀ (listed : Array Bool) (hr : Region.ready .any l listed = [6]) (hr' : Region.ready .any l (listed.setIfInBounds 6 true) = []), wpAny P .any l Q 1 listed ((a4.put (some (d + 3)) pw).put (some (d + 5)) v) w.drew := by
    intro listed hr hr'
    refine wpAny_ready hr (by simp) (AllReady.cons o6 (fun K hK => ?_) AllReady.nil)
    rw [if_pos (want _ _ rfl)]
    have q3 : ((a4.put (some (d + 3)) pw).put (some (d + 5)) v).tmps[d + 3]? = some pw := put_ne (put_at s4 (by omega)) (by omega)
    have q5 : ((a4.put (some (d + 3)) pw).put (some (d + 5)) v).tmps[d + 5]? = some v := put_at (by rw [putsize, s4]) (by omega)
    unfold Oper.wp
    have hrun : (execOp ((a4.put (some (d + 3)) pw).put (some (d + 5)) v).eval ⟨some (d + 6), .call { callee := .value (.func f), args := #[.tmp (d + 3), .tmp (d + 5)], argTypes := at_ }, y6, s, #[⟨3, .data⟩, ⟨5, .data⟩], none⟩).run P w.drew = .ok (.enter f #[pw, v]) w.drew := hE _ _ (eval_tmp q3) (eval_tmp q5)
    rw [hrun, Oper.upon_enter]
    refine hc.mono ?_
    rintro e w' ⟨r, rfl, hQ⟩
    refine hK _ _ (wpAny_done hr' ?_ _)
    rw [hput]
    exact hQ
  refine wpAny_ready r4 (by simp) (AllReady.cons o3 (fun K hK => ?_) (AllReady.cons o5 (fun K hK => ?_) AllReady.nil))
  · rw [if_pos (want _ _ rfl)]
    unfold Oper.wp
    have hrun : (execOp a4.eval ⟨some (d + 3), .load tl (.tmp (d + 2)), y3, s, #[⟨2, .data⟩], none⟩).run P w.drew = .ok (.value pw) w.drew := by simp [execOp, eval_tmp e42, hL0]
    rw [hrun, Oper.upon_value]
    refine hK _ _ ?_
    refine wpAny_ready r5 (by simp) (AllReady.cons o5 (fun K hK => ?_) AllReady.nil)
    rw [if_pos (want _ _ rfl)]
    unfold Oper.wp
    have hrun : (execOp (a4.put (some (d + 3)) pw).eval ⟨some (d + 5), .load tf (.tmp (d + 4)), y5, s, #[⟨4, .data⟩], none⟩).run P w.drew = .ok (.value v) w.drew := by
      have : (a4.put (some (d + 3)) pw).tmps[d + 4]? = some pf := put_ne e4 (by omega)
      simp [execOp, eval_tmp this, hL1]
    rw [hrun, Oper.upon_value]
    exact hK _ _ (hcall _ r6 r7)
  · rw [if_pos (want _ _ rfl)]
    unfold Oper.wp
    have hrun : (execOp a4.eval ⟨some (d + 5), .load tf (.tmp (d + 4)), y5, s, #[⟨4, .data⟩], none⟩).run P w.drew = .ok (.value v) w.drew := by simp [execOp, eval_tmp e4, hL1]
    rw [hrun, Oper.upon_value]
    refine hK _ _ ?_
    refine wpAny_ready r5' (by simp) (AllReady.cons o3 (fun K hK => ?_) AllReady.nil)
    rw [if_pos (want _ _ rfl)]
    unfold Oper.wp
    have hrun : (execOp (a4.put (some (d + 5)) v).eval ⟨some (d + 3), .load tl (.tmp (d + 2)), y3, s, #[⟨2, .data⟩], none⟩).run P w.drew = .ok (.value pw) w.drew := by
      have : (a4.put (some (d + 5)) v).tmps[d + 2]? = some p1 := put_ne e42 (by omega)
      simp [execOp, eval_tmp this, hL0]
    rw [hrun, Oper.upon_value]
    refine hK _ _ ?_
    show wpAny P .any l Q 1 _ ((a4.put (some (d + 5)) v).put (some (d + 3)) pw) _
    rw [put_comm a4 v pw (by omega)]
    exact hcall _ r6' r7'

theorem wpl_valW {P : Program} {ops : Array Oper} {Q : Exit → Act → World → Prop} {rest : List Oper} {a : Act} {w w' : World} {o : Oper} {v : Value} (hw : Region.wanted o (yielded ops a.tmps) = true) (hr : (execOp a.eval o).run P w = .ok (.value v) w') (h : wpList P ops Q rest (a.put o.dst v) w') : wpList P ops Q (o :: rest) a w := by
  unfold wpList
  rw [if_pos hw]
  refine .inl ?_
  unfold Oper.wp
  rw [hr, Oper.upon_value]
  exact h
theorem wpl_call {P : Program} {ops : Array Oper} {Q : Exit → Act → World → Prop} {rest : List Oper} {a : Act} {w : World} {o : Oper} {f : FuncId} {args : Array Value} {R : Value → World → Prop} (hw : Region.wanted o (yielded ops a.tmps) = true) (hr : (execOp a.eval o).run P w = .ok (.enter f args) w)
    (hc : Calls P f args w fun e w' => ∃ v, e = .returned v ∧ R v w') (h : ∀ v w', R v w' → wpList P ops Q rest (a.put o.dst v) w') : wpList P ops Q (o :: rest) a w := by
  unfold wpList
  rw [if_pos hw]
  refine .inl ?_
  unfold Oper.wp
  rw [hr, Oper.upon_enter]
  refine hc.mono ?_
  rintro e w' ⟨v, rfl, hR⟩
  exact h v w' hR

end Go.Proofs.Ytanknjpcgceccaa
