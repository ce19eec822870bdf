/- A region that draws its order: what is left of it is quiet; a walk in an order of one's own. No program. -/
import Derived.Test.YtanknjpcgceccaaMid
import Derived.OrdersHeld
import Derived.Test.YtanknjpcgceccaaChain
import Derived.Test.YtanknjpcgceccaaCopy2
namespace Go.Proofs.Ytanknjpcgceccaa

section
variable {P : Program} {ops : Array Oper} {md : Region.Mode} {C S : World → Prop}

def seqB (md : Region.Mode) (ops : Array Oper) : List Nat → Array Bool → Bool
  | [], listed => (Region.ready md ops listed).isEmpty
  | k :: ks, listed => (Region.ready md ops listed).contains k && Region.free md ops listed k && seqB md ops ks (listed.setIfInBounds k true)

/-- The operations ks, in this order. -/
def opsOf (l : List Oper) : List Nat → List Oper
  | [] => []
  | k :: ks => match l[k]? with
    | some o => o :: opsOf l ks
    | none => []

theorem wpAnyQ_seq {Q : Act → Prop} {l : List Oper} (hs : Region.noSelect l.toArray = true) : ∀ (ks : List Nat) (listed : Array Bool) (a : Act), (∀ k ∈ ks, k < l.length) →
    seqB md l.toArray ks listed = true → wpQuiet P l.toArray C Q (opsOf l ks) a → wpAnyQ P md l.toArray C Q ks.length listed a
  | [], _, _, _, hB, h => ⟨by simpa [seqB] using hB, h⟩
  | k :: ks, listed, a, hk, hB, h => by
    have hkl := hk k (by simp)
    have hl : l[k]? = some l[k] := List.getElem?_eq_getElem hkl
    have h0 : l.toArray[k]? = some l[k] := by simp [hl]
    simp only [seqB, Bool.and_eq_true] at hB
    obtain ⟨⟨hr, hf⟩, hB'⟩ := hB
    have h1 : opsOf l (k :: ks) = l[k] :: opsOf l ks := by simp only [opsOf, hl]
    rw [h1] at h
    have hst : qOp P l.toArray C k (wpQuiet P l.toArray C Q (opsOf l ks)) a := by unfold qOp; simp only [h0]; exact h
    obtain ⟨v, hy, hK⟩ := yieldsIn_of_qOp h0 hst
    exact wpAnyQ_first h0 (Region.noSelect_spec hs) ks.length listed a (Region.free_spec h0 hf) (by simpa using hr) hy
      (wpAnyQ_seq hs ks _ _ (fun j hj => hk j (by simp [hj])) hB' hK)

theorem wpAnyH_of_quiet {Q : Act → Prop} {Q' : Exit → Act → World → Prop} (hQ : ∀ a w, C w → Q a → Q' .normal a w) (hS : ∀ w, C w → S w) : ∀ (fuel : Nat) (listed : Array Bool) (a : Act) (w : World), C w →
    wpAnyQ P md ops C Q fuel listed a → wpAnyH P md ops Q' S fuel listed a w
  | 0, _, _, _, hw, h => ⟨h.1, hQ _ _ hw h.2⟩
  | fuel + 1, _, _, _, hw, h => ⟨fun h0 => hQ _ _ hw (h.1 h0), fun i hi => wpOp_of_qOp hw (fun a' w' hw' h' => ⟨hS w' hw', wpAnyH_of_quiet hQ hS fuel _ a' w' hw' h'⟩) (h.2 i hi)⟩

/-- What is left, the operations ks in this order, only reads. -/
theorem wpAnyH_quiet_seq {l : List Oper} (ks : List Nat) {Q : Exit → Act → World → Prop} {fuel : Nat} {listed : Array Bool} {a : Act} {w : World}
    (hs : Region.noSelect l.toArray = true) (hf : ks.length = fuel) (hk : (ks.all fun k => decide (k < l.length)) = true) (hB : seqB .any l.toArray ks listed = true) (hS : ∀ n, S (w.drewN n))
    (h : wpQuiet P l.toArray (fun w' => ∃ n, w' = w.drewN n) (fun a' => ∀ w', (∃ n, w' = w.drewN n) → Q .normal a' w') (opsOf l ks) a) : wpAnyH P .any l.toArray Q S fuel listed a w := by
  subst hf
  refine wpAnyH_of_quiet (C := fun w' => ∃ n, w' = w.drewN n) (Q := fun a' => ∀ w', (∃ n, w' = w.drewN n) → Q .normal a' w') (fun _ w' hw' h => h w' hw') (fun w' hw' => by obtain ⟨n, rfl⟩ := hw'; exact hS n) _ _ _ _ ⟨0, rfl⟩ ?_
  exact wpAnyQ_seq hs ks listed a (fun k hk' => by simpa using List.all_eq_true.1 hk k hk') hB h
end

end Go.Proofs.Ytanknjpcgceccaa

/- A drawn region of six operations that read, and a call of what they read. No program. -/
namespace Go.Proofs.Ytanknjpcgceccaa

theorem put_comm (a : Act) {d e : Nat} (u v : Value) (h : d ≠ e) : (a.put (some d) u).put (some e) v = (a.put (some e) v).put (some d) u := by
  simp only [Act.put]
  congr 1
  exact Array.setIfInBounds_comm _ _ h

/-- 'o.W.Put(x.f)' -/
def put7 (t0 tg d T T2 i0 i tl tf : Nat) (y0 y1 y2 y3 y4 y5 y6 : TypeId) (s : String) (at_ : Array TypeId) (f : FuncId) : Array Oper :=
  #[⟨some d, .move (.tmp t0), y0, s, #[], none⟩, ⟨some (d + 1), .nilCheck (.tmp d), y1, s, #[⟨0, .data⟩], none⟩, ⟨some (d + 2), .fieldAddr T (.tmp (d + 1)) i0, y2, s, #[⟨1, .data⟩], none⟩, ⟨some (d + 3), .load tl (.tmp (d + 2)), y3, s, #[⟨2, .data⟩], none⟩,
      ⟨some (d + 4), .fieldAddr T2 (.tmp tg) i, y4, s, #[], none⟩, ⟨some (d + 5), .load tf (.tmp (d + 4)), y5, s, #[⟨4, .data⟩], none⟩,
      ⟨some (d + 6), .call { callee := .value (.func f), args := #[.tmp (d + 3), .tmp (d + 5)], argTypes := at_ }, y6, s, #[⟨3, .data⟩, ⟨5, .data⟩], none⟩]
def put7B (l : Array Oper) : Bool :=
  let s0 := Array.replicate 7 false
  let s1 := s0.setIfInBounds 0 true
  let s2 := s1.setIfInBounds 1 true
  let s3 := s2.setIfInBounds 2 true
  let s4 := s3.setIfInBounds 4 true
  let s5 := s4.setIfInBounds 3 true
  let s5' := s4.setIfInBounds 5 true
  let s6 := s5.setIfInBounds 5 true
  let s6' := s5'.setIfInBounds 3 true
  let s7 := s6.setIfInBounds 6 true
  let s7' := s6'.setIfInBounds 6 true
  let R := Region.ready .any l
  Region.noSelect l && (Region.free .any l s0 0 && (R s0).contains 0) && (Region.free .any l s1 1 && (R s1).contains 1) && (Region.free .any l s2 2 && (R s2).contains 2) && (Region.free .any l s3 4 && (R s3).contains 4) &&
    (R s4 == [3, 5]) && (R s5 == [5]) && (R s5' == [3]) && (R s6 == [6]) && (R s6' == [6]) && (R s7 == []) && (R s7' == [])

set_option maxHeartbeats 1000000 in
/-- 'o.W.Put(x.f)' -/
theorem wp_put7 {P : Program} (hm : P.follows .mixedOrders = true) {id t0 tg d T T2 i0 i tl tf : Nat} {y0 y1 y2 y3 y4 y5 y6 : TypeId} {s : String} {at_ : Array TypeId} {f : FuncId} {n : Nat} {pc pw pg p1 pf v : Value} {a : Act} {w : World} {Q : Exit → Act → World → Prop} (hp : ∀ c (a : Act) (d : Nat) v w, Q (.panic c) (a.put (some d) v) w → Q (.panic c) a w)
    {l : Array Oper} (hl : l = put7 t0 tg d T T2 i0 i tl tf y0 y1 y2 y3 y4 y5 y6 s at_ f) (hB : put7B l = true)
    (hs : a.tmps.size = n) (h0 : a.tmps[t0]? = some pc) (hg : a.tmps[tg]? = some pg) (hd : t0 < d ∧ tg < d ∧ d + 6 < n)
    (hN : ∀ w, (execOp (fun _ => pc) ⟨some (d + 1), .nilCheck (.tmp d), y1, s, #[⟨0, .data⟩], none⟩).run P w = .ok (.value pc) w)
    (hE : ∀ (a : Act) (w : World), a.eval (.tmp (d + 3)) = pw → a.eval (.tmp (d + 5)) = v → (execOp a.eval ⟨some (d + 6), .call { callee := .value (.func f), args := #[.tmp (d + 3), .tmp (d + 5)], argTypes := at_ }, y6, s, #[⟨3, .data⟩, ⟨5, .data⟩], none⟩).run P w = .ok (.enter f #[pw, v]) w)
    (hF0 : ∀ w, (Instr.fieldAt T pc i0).run P w = .ok p1 w) (hL0 : (Instr.loadAt tl p1).run P w.drew = .ok pw w.drew)
    (hF1 : ∀ w, (Instr.fieldAt T2 pg i).run P w = .ok pf w) (hL1 : (Instr.loadAt tf pf).run P w.drew = .ok v w.drew)
    (hc : Calls P f #[pw, v] w.drew fun e w' => ∃ r, e = .returned r ∧ Q .normal (((((((a.put (some d) pc).put (some (d + 1)) pc).put (some (d + 2)) p1).put (some (d + 3)) pw).put (some (d + 4)) pf).put (some (d + 5)) v).put (some (d + 6)) r) w') :
    (Code.region id l true).wp P Q a w := by
  simp only [put7B, Bool.and_eq_true, beq_iff_eq] at hB
  obtain ⟨⟨⟨⟨⟨⟨⟨⟨⟨⟨⟨hsel, b0, c0⟩, b1, c1⟩, b2, c2⟩, b4, c4⟩, r4⟩, r5⟩, r5'⟩, r6⟩, r6'⟩, r7⟩, r7'⟩ := hB
  obtain ⟨hd1, hd2, hd3⟩ := hd
  have o0 : l[0]? = some ⟨some d, .move (.tmp t0), y0, s, #[], none⟩ := by rw [hl]; rfl
  have o1 : l[1]? = some ⟨some (d + 1), .nilCheck (.tmp d), y1, s, #[⟨0, .data⟩], none⟩ := by rw [hl]; rfl
  have o2 : l[2]? = some ⟨some (d + 2), .fieldAddr T (.tmp (d + 1)) i0, y2, s, #[⟨1, .data⟩], none⟩ := by rw [hl]; rfl
  have o3 : l[3]? = some ⟨some (d + 3), .load tl (.tmp (d + 2)), y3, s, #[⟨2, .data⟩], none⟩ := by rw [hl]; rfl
  have o4 : l[4]? = some ⟨some (d + 4), .fieldAddr T2 (.tmp tg) i, y4, s, #[], none⟩ := by rw [hl]; rfl
  have o5 : l[5]? = some ⟨some (d + 5), .load tf (.tmp (d + 4)), y5, s, #[⟨4, .data⟩], none⟩ := by rw [hl]; rfl
  have o6 : l[6]? = some ⟨some (d + 6), .call { callee := .value (.func f), args := #[.tmp (d + 3), .tmp (d + 5)], argTypes := at_ }, y6, s, #[⟨3, .data⟩, ⟨5, .data⟩], none⟩ := by rw [hl]; rfl
  have hsz : l.size = 7 := by rw [hl]; rfl
  refine wp_region_any hm ?_
  rw [hsz]
  clear hl hsz
  show wpAny P .any l Q 7 (Array.replicate 7 false) a w.drew
  -- slots
  obtain ⟨a0, ha0⟩ : ∃ z, z = a.put (some d) pc := ⟨_, rfl⟩
  have s0 : a0.tmps.size = n := by rw [ha0, putsize, hs]
  have e0 : a0.tmps[d]? = some pc := by rw [ha0]; exact put_at hs (by omega)
  have g0 : a0.tmps[tg]? = some pg := by rw [ha0]; exact put_ne hg (by omega)
  obtain ⟨a1, ha1⟩ : ∃ z, z = a0.put (some (d + 1)) pc := ⟨_, rfl⟩
  have s1 : a1.tmps.size = n := by rw [ha1, putsize, s0]
  have e1 : a1.tmps[d + 1]? = some pc := by rw [ha1]; exact put_at s0 (by omega)
  have g1 : a1.tmps[tg]? = some pg := by rw [ha1]; exact put_ne g0 (by omega)
  obtain ⟨a2, ha2⟩ : ∃ z, z = a1.put (some (d + 2)) p1 := ⟨_, rfl⟩
  have s2 : a2.tmps.size = n := by rw [ha2, putsize, s1]
  have e2 : a2.tmps[d + 2]? = some p1 := by rw [ha2]; exact put_at s1 (by omega)
  have g2 : a2.tmps[tg]? = some pg := by rw [ha2]; exact put_ne g1 (by omega)
  obtain ⟨a4, ha4⟩ : ∃ z, z = a2.put (some (d + 4)) pf := ⟨_, rfl⟩
  have s4 : a4.tmps.size = n := by rw [ha4, putsize, s2]
  have e4 : a4.tmps[d + 4]? = some pf := by rw [ha4]; exact put_at s2 (by omega)
  have e42 : a4.tmps[d + 2]? = some p1 := by rw [ha4]; exact put_ne e2 (by omega)
  have want : ∀ (o : Oper) (a : Act), o.guard = none → Region.wanted o (yielded l a.tmps) = true := fun o a ho => by unfold Region.wanted; rw [ho]
  refine wpAny_take (i := 0) (v := pc) o0 hsel b0 c0 (fun c a w h => hp _ _ _ _ _ h) (Or.inl ⟨want _ _ rfl, fun w => ?_⟩) ?_
  · simp [execOp, eval_tmp h0]
  show wpAny P .any l Q 6 _ (a.put (some d) pc) _
  rw [← ha0]
  refine wpAny_take (i := 1) (v := pc) o1 hsel b1 c1 (fun c a w h => hp _ _ _ _ _ h) (Or.inl ⟨want _ _ rfl, fun w => ?_⟩) ?_
  · have := hN w
    simp only [execOp, eval_tmp e0] at this ⊢
    exact this
  show wpAny P .any l Q 5 _ (a0.put (some (d + 1)) pc) _
  rw [← ha1]
  refine wpAny_take (i := 2) (v := p1) o2 hsel b2 c2 (fun c a w h => hp _ _ _ _ _ h) (Or.inl ⟨want _ _ rfl, fun w => ?_⟩) ?_
  · simp [execOp, eval_tmp e1, hF0]
  show wpAny P .any l Q 4 _ (a1.put (some (d + 2)) p1) _
  rw [← ha2]
  refine wpAny_take (i := 4) (v := pf) o4 hsel b4 c4 (fun c a w h => hp _ _ _ _ _ h) (Or.inl ⟨want _ _ rfl, fun w => ?_⟩) ?_
  · simp [execOp, eval_tmp g2, hF1]
  show wpAny P .any l Q 3 _ (a2.put (some (d + 4)) pf) _
  rw [← ha4]
  have hput : (((a4.put (some (d + 3)) pw).put (some (d + 5)) v)) = ((((((a.put (some d) pc).put (some (d + 1)) pc).put (some (d + 2)) p1).put (some (d + 3)) pw).put (some (d + 4)) pf).put (some (d + 5)) v) := by
    rw [ha4, ha2, ha1, ha0, put_comm _ pf pw (by omega)]
  have hcall : ∀ (listed : Array Bool) (hr : Region.ready .any l listed = [6]) (hr' : Region.ready .any l (listed.setIfInBounds 6 true) = []), wpAny P .any l Q 1 listed ((a4.put (some (d + 3)) pw).put (some (d + 5)) v) w.drew := by
    intro listed hr hr'
    refine wpAny_ready hr (by simp) (AllReady.cons o6 (fun K hK => ?_) AllReady.nil)
    rw [if_pos (want _ _ rfl)]
    have q3 : ((a4.put (some (d + 3)) pw).put (some (d + 5)) v).tmps[d + 3]? = some pw := put_ne (put_at s4 (by omega)) (by omega)
    have q5 : ((a4.put (some (d + 3)) pw).put (some (d + 5)) v).tmps[d + 5]? = some v := put_at (by rw [putsize, s4]) (by omega)
    unfold Oper.wp
    have hrun : (execOp ((a4.put (some (d + 3)) pw).put (some (d + 5)) v).eval ⟨some (d + 6), .call { callee := .value (.func f), args := #[.tmp (d + 3), .tmp (d + 5)], argTypes := at_ }, y6, s, #[⟨3, .data⟩, ⟨5, .data⟩], none⟩).run P w.drew = .ok (.enter f #[pw, v]) w.drew := hE _ _ (eval_tmp q3) (eval_tmp q5)
    rw [hrun, Oper.upon_enter]
    refine hc.mono ?_
    rintro e w' ⟨r, rfl, hQ⟩
    refine hK _ _ (wpAny_done hr' ?_ _)
    rw [hput]
    exact hQ
  refine wpAny_ready r4 (by simp) (AllReady.cons o3 (fun K hK => ?_) (AllReady.cons o5 (fun K hK => ?_) AllReady.nil))
  · rw [if_pos (want _ _ rfl)]
    unfold Oper.wp
    have hrun : (execOp a4.eval ⟨some (d + 3), .load tl (.tmp (d + 2)), y3, s, #[⟨2, .data⟩], none⟩).run P w.drew = .ok (.value pw) w.drew := by simp [execOp, eval_tmp e42, hL0]
    rw [hrun, Oper.upon_value]
    refine hK _ _ ?_
    refine wpAny_ready r5 (by simp) (AllReady.cons o5 (fun K hK => ?_) AllReady.nil)
    rw [if_pos (want _ _ rfl)]
    unfold Oper.wp
    have hrun : (execOp (a4.put (some (d + 3)) pw).eval ⟨some (d + 5), .load tf (.tmp (d + 4)), y5, s, #[⟨4, .data⟩], none⟩).run P w.drew = .ok (.value v) w.drew := by
      have : (a4.put (some (d + 3)) pw).tmps[d + 4]? = some pf := put_ne e4 (by omega)
      simp [execOp, eval_tmp this, hL1]
    rw [hrun, Oper.upon_value]
    exact hK _ _ (hcall _ r6 r7)
  · rw [if_pos (want _ _ rfl)]
    unfold Oper.wp
    have hrun : (execOp a4.eval ⟨some (d + 5), .load tf (.tmp (d + 4)), y5, s, #[⟨4, .data⟩], none⟩).run P w.drew = .ok (.value v) w.drew := by simp [execOp, eval_tmp e4, hL1]
    rw [hrun, Oper.upon_value]
    refine hK _ _ ?_
    refine wpAny_ready r5' (by simp) (AllReady.cons o3 (fun K hK => ?_) AllReady.nil)
    rw [if_pos (want _ _ rfl)]
    unfold Oper.wp
    have hrun : (execOp (a4.put (some (d + 5)) v).eval ⟨some (d + 3), .load tl (.tmp (d + 2)), y3, s, #[⟨2, .data⟩], none⟩).run P w.drew = .ok (.value pw) w.drew := by
      have : (a4.put (some (d + 5)) v).tmps[d + 2]? = some p1 := put_ne e42 (by omega)
      simp [execOp, eval_tmp this, hL0]
    rw [hrun, Oper.upon_value]
    refine hK _ _ ?_
    show wpAny P .any l Q 1 _ ((a4.put (some (d + 5)) v).put (some (d + 3)) pw) _
    rw [put_comm a4 v pw (by omega)]
    exact hcall _ r6' r7'

theorem wpl_valW {P : Program} {ops : Array Oper} {Q : Exit → Act → World → Prop} {rest : List Oper} {a : Act} {w w' : World} {o : Oper} {v : Value} (hw : Region.wanted o (yielded ops a.tmps) = true) (hr : (execOp a.eval o).run P w = .ok (.value v) w') (h : wpList P ops Q rest (a.put o.dst v) w') : wpList P ops Q (o :: rest) a w := by
  unfold wpList
  rw [if_pos hw]
  refine .inl ?_
  unfold Oper.wp
  rw [hr, Oper.upon_value]
  exact h
theorem wpl_call {P : Program} {ops : Array Oper} {Q : Exit → Act → World → Prop} {rest : List Oper} {a : Act} {w : World} {o : Oper} {f : FuncId} {args : Array Value} {R : Value → World → Prop} (hw : Region.wanted o (yielded ops a.tmps) = true) (hr : (execOp a.eval o).run P w = .ok (.enter f args) w)
    (hc : Calls P f args w fun e w' => ∃ v, e = .returned v ∧ R v w') (h : ∀ v w', R v w' → wpList P ops Q rest (a.put o.dst v) w') : wpList P ops Q (o :: rest) a w := by
  unfold wpList
  rw [if_pos hw]
  refine .inl ?_
  unfold Oper.wp
  rw [hr, Oper.upon_enter]
  refine hc.mono ?_
  rintro e w' ⟨v, rfl, hR⟩
  exact h v w' hR

end Go.Proofs.Ytanknjpcgceccaa

/- 'x, y := p.f, p.g' of numbers into two new variables, in a drawn region whose moves, checks and addresses have yielded. No program. -/
namespace Go.Proofs.Ytanknjpcgceccaa

def lst (l3 l7 l8 l9 l10 l11 : Bool) : Array Bool := #[true, true, true, l3, true, true, true, l7, l8, l9, l10, l11]
def cput (b : Bool) (d : Nat) (v : Value) (a : Act) : Act := if b then a.put (some d) v else a
theorem cput_size (b : Bool) (d : Nat) (v : Value) (a : Act) : (cput b d v a).tmps.size = a.tmps.size := by
  unfold cput; split
  · exact putsize _ _ _
  · rfl
theorem cput_ne {b : Bool} {d j : Nat} {v u : Value} {a : Act} (h : a.tmps[j]? = some u) (hne : d ≠ j) : (cput b d v a).tmps[j]? = some u := by
  unfold cput; split
  · exact put_ne h hne
  · exact h
theorem cput_put {b : Bool} {d e : Nat} {u v : Value} {a : Act} (h : d ≠ e) : (cput b d u a).put (some e) v = cput b d u (a.put (some e) v) := by
  unfold cput; split
  · exact put_comm a u v h
  · rfl
def Dep12 (l : Array Oper) : Prop := ∀ l3 l7 l8 l9 l10 l11 : Bool,
  ((Region.ready .any l (lst l3 l7 l8 l9 l10 l11)).contains 10 = true → l3 = true ∧ l8 = true) ∧ ((Region.ready .any l (lst l3 l7 l8 l9 l10 l11)).contains 11 = true → l7 = true ∧ l9 = true) ∧
  (Region.ready .any l (lst l3 l7 l8 l9 l10 l11) = [] → (l3 = true ∧ l7 = true) ∧ (l8 = true ∧ l9 = true) ∧ (l10 = true ∧ l11 = true))

def bothB (f : Bool → Bool) : Bool := f false && f true
theorem bothB_all {f : Bool → Bool} (h : bothB f = true) (b : Bool) : f b = true := by
  unfold bothB at h
  rw [Bool.and_eq_true] at h
  cases b
  · exact h.1
  · exact h.2
def dep12B (l : Array Oper) : Bool :=
  bothB fun l3 => bothB fun l7 => bothB fun l8 => bothB fun l9 => bothB fun l10 => bothB fun l11 =>
    let r := Region.ready .any l (lst l3 l7 l8 l9 l10 l11)
    (!r.contains 10 || (l3 && l8)) && ((!r.contains 11 || (l7 && l9)) && (!r.isEmpty || ((l3 && l7) && ((l8 && l9) && (l10 && l11)))))
theorem dep12 {l : Array Oper} (h : dep12B l = true) : Dep12 l := by
  intro l3 l7 l8 l9 l10 l11
  have h1 := bothB_all (bothB_all (bothB_all (bothB_all (bothB_all (bothB_all h l3) l7) l8) l9) l10) l11
  simp only [Bool.and_eq_true, Bool.or_eq_true, Bool.not_eq_true'] at h1
  obtain ⟨ha, hb, hc⟩ := h1
  refine ⟨fun h => ha.resolve_left (by rw [h]; simp), fun h => hb.resolve_left (by rw [h]; simp), fun h => ?_⟩
  rw [h] at hc
  exact hc.resolve_left (by simp)

set_option maxHeartbeats 1000000 in
theorem any_locals2 {P : Program} {Q : Exit → Act → World → Prop} {tf : TypeId} {x y d3 d7 q3 q7 n : Nat} {ops : Array Oper} {a6 : Act} {w0 : World} {pA pB vA vB z : Value} {y3 y7 y8 y9 y10 y11 : TypeId} {s3 s7 s8 s9 s10 s11 : String} {e3 e7 e8 e9 e10 e11 : Array Edge}
    (o3 : ops[3]? = some ⟨some d3, .load tf (.tmp q3), y3, s3, e3, none⟩) (o7 : ops[7]? = some ⟨some d7, .load tf (.tmp q7), y7, s7, e7, none⟩)
    (o8 : ops[8]? = some ⟨some x, .alloc tf, y8, s8, e8, none⟩) (o9 : ops[9]? = some ⟨some y, .alloc tf, y9, s9, e9, none⟩)
    (o10 : ops[10]? = some ⟨none, .store tf (.tmp x) (.tmp d3), y10, s10, e10, none⟩) (o11 : ops[11]? = some ⟨none, .store tf (.tmp y) (.tmp d7), y11, s11, e11, none⟩)
    (hsz : ops.size = 12) (hdep : Dep12 ops)
    (hne : (d3 ≠ q3 ∧ d3 ≠ q7 ∧ d7 ≠ q3 ∧ d7 ≠ q7 ∧ x ≠ q3 ∧ x ≠ q7 ∧ y ≠ q3 ∧ y ≠ q7) ∧ (d3 ≠ d7 ∧ d3 ≠ x ∧ d3 ≠ y ∧ d7 ≠ x ∧ d7 ≠ y ∧ x ≠ y) ∧ (d3 < n ∧ d7 < n ∧ x < n ∧ y < n))
    (hs : a6.tmps.size = n) (hA : a6.tmps[q3]? = some pA) (hB : a6.tmps[q7]? = some pB)
    (LA : ∀ w, Mods (fun _ => False) w0 w → (Instr.loadAt tf pA).run P w = .ok vA w) (LB : ∀ w, Mods (fun _ => False) w0 w → (Instr.loadAt tf pB).run P w = .ok vB w)
    (hz : ∀ w : World, (Instr.alloc tf true (.tuple #[])).run P w = .ok (.pointer (some ⟨w.heap.size, 0, none⟩)) (w.alloc (.cells #[z] tf)))
    (SA : ∀ (ev : Operand → Value) (w : World) (h : Nat) (u : Value), ev (.tmp x) = .pointer (some ⟨h, 0, none⟩) → ev (.tmp d3) = vA → w.cell? ⟨h, 0, none⟩ = some u → w.frozen? ⟨h, 0, none⟩ = false → (execOp ev ⟨none, .store tf (.tmp x) (.tmp d3), y10, s10, e10, none⟩).run P w = .ok .skip (w.setCell ⟨h, 0, none⟩ vA))
    (SB : ∀ (ev : Operand → Value) (w : World) (h : Nat) (u : Value), ev (.tmp y) = .pointer (some ⟨h, 0, none⟩) → ev (.tmp d7) = vB → w.cell? ⟨h, 0, none⟩ = some u → w.frozen? ⟨h, 0, none⟩ = false → (execOp ev ⟨none, .store tf (.tmp y) (.tmp d7), y11, s11, e11, none⟩).run P w = .ok .skip (w.setCell ⟨h, 0, none⟩ vB))
    (hQ : ∀ h0 h1 w', h0 ≠ h1 → w0.heap.size ≤ h0 → w0.heap.size ≤ h1 → Mods (fun _ => False) w0 w' → w'.cell? ⟨h0, 0, none⟩ = some vA → w'.cell? ⟨h1, 0, none⟩ = some vB → (h0 < w'.heap.size ∧ ∀ j, w'.frozen? ⟨h0, j, none⟩ = false) → (h1 < w'.heap.size ∧ ∀ j, w'.frozen? ⟨h1, j, none⟩ = false) →
      Q .normal ((((a6.put (some y) (.pointer (some ⟨h1, 0, none⟩))).put (some x) (.pointer (some ⟨h0, 0, none⟩))).put (some d7) vB).put (some d3) vA) w') :
    wpAny P .any ops Q 6 (lst false false false false false false) a6 w0 := by
  obtain ⟨⟨n1, n2, n3, n4, n5, n6, n7, n8⟩, ⟨m1, m2, m3, m4, m5, m6⟩, b1, b2, b3, b4⟩ := hne
  refine wpAny_inv (fun listed a w => ∃ l3 l7 l8 l9 l10 l11 h0 h1, listed = lst l3 l7 l8 l9 l10 l11 ∧
    a = cput l3 d3 vA (cput l7 d7 vB (cput l8 x (.pointer (some ⟨h0, 0, none⟩)) (cput l9 y (.pointer (some ⟨h1, 0, none⟩)) a6))) ∧ Mods (fun _ => False) w0 w ∧
    (l8 = true → w0.heap.size ≤ h0 ∧ h0 < w.heap.size ∧ w.cell? ⟨h0, 0, none⟩ = some (if l10 then vA else z) ∧ ∀ j, w.frozen? ⟨h0, j, none⟩ = false) ∧
    (l9 = true → w0.heap.size ≤ h1 ∧ h1 < w.heap.size ∧ w.cell? ⟨h1, 0, none⟩ = some (if l11 then vB else z) ∧ ∀ j, w.frozen? ⟨h1, j, none⟩ = false) ∧
    (l8 = true → l9 = true → h0 ≠ h1) ∧ (l10 = true → l8 = true) ∧ (l11 = true → l9 = true)) ?_ ?_ _ _ _ _ (by rw [hsz]; rfl) (by decide) ?_
  · rintro listed a w i ⟨l3, l7, l8, l9, l10, l11, h0, h1, rfl, rfl, hm, k8, k9, kne, k10, k11⟩ hr
    have hr0 := hr
    simp only [Region.ready, List.mem_filter, List.mem_range, Bool.and_eq_true, Bool.not_eq_true', hsz] at hr
    obtain ⟨hi12, hfree, _⟩ := hr
    have hsize : (cput l3 d3 vA (cput l7 d7 vB (cput l8 x (.pointer (some ⟨h0, 0, none⟩)) (cput l9 y (.pointer (some ⟨h1, 0, none⟩)) a6)))).tmps.size = n := by simp only [cput_size, hs]
    have hA' : (cput l3 d3 vA (cput l7 d7 vB (cput l8 x (.pointer (some ⟨h0, 0, none⟩)) (cput l9 y (.pointer (some ⟨h1, 0, none⟩)) a6)))).tmps[q3]? = some pA := cput_ne (cput_ne (cput_ne (cput_ne hA n7) n5) n3) n1
    have hB' : (cput l3 d3 vA (cput l7 d7 vB (cput l8 x (.pointer (some ⟨h0, 0, none⟩)) (cput l9 y (.pointer (some ⟨h1, 0, none⟩)) a6)))).tmps[q7]? = some pB := cput_ne (cput_ne (cput_ne (cput_ne hB n8) n6) n4) n2
    match i, hi12 with
    | 0, _ => simp [lst] at hfree
    | 1, _ => simp [lst] at hfree
    | 2, _ => simp [lst] at hfree
    | 4, _ => simp [lst] at hfree
    | 5, _ => simp [lst] at hfree
    | 6, _ => simp [lst] at hfree
    | 3, _ =>
      have e : l3 = false := by simpa [lst] using hfree
      subst e
      unfold wpOp
      rw [o3]
      simp only [Region.wanted, if_true]
      refine .inl ?_
      unfold Oper.wp
      have hrun : (execOp (cput false d3 vA (cput l7 d7 vB (cput l8 x (.pointer (some ⟨h0, 0, none⟩)) (cput l9 y (.pointer (some ⟨h1, 0, none⟩)) a6)))).eval ⟨some d3, .load tf (.tmp q3), y3, s3, e3, none⟩).run P w = .ok (.value vA) w := by simp [execOp, eval_tmp hA', LA w hm]
      rw [hrun, Oper.upon_value]
      exact ⟨true, l7, l8, l9, l10, l11, h0, h1, rfl, rfl, hm, k8, k9, kne, k10, k11⟩
    | 7, _ =>
      have e : l7 = false := by simpa [lst] using hfree
      subst e
      unfold wpOp
      rw [o7]
      simp only [Region.wanted, if_true]
      refine .inl ?_
      unfold Oper.wp
      have hrun : (execOp (cput l3 d3 vA (cput false d7 vB (cput l8 x (.pointer (some ⟨h0, 0, none⟩)) (cput l9 y (.pointer (some ⟨h1, 0, none⟩)) a6)))).eval ⟨some d7, .load tf (.tmp q7), y7, s7, e7, none⟩).run P w = .ok (.value vB) w := by simp [execOp, eval_tmp hB', LB w hm]
      rw [hrun, Oper.upon_value]
      exact ⟨l3, true, l8, l9, l10, l11, h0, h1, rfl, by rw [cput_put m1]; rfl, hm, k8, k9, kne, k10, k11⟩
    | 8, _ =>
      have e : l8 = false := by simpa [lst] using hfree
      subst e
      have e10 : l10 = false := by cases l10 <;> simp_all
      subst e10
      unfold wpOp
      rw [o8]
      simp only [Region.wanted, if_true]
      refine .inl ?_
      unfold Oper.wp
      have hrun : (execOp (cput l3 d3 vA (cput l7 d7 vB (cput false x (.pointer (some ⟨h0, 0, none⟩)) (cput l9 y (.pointer (some ⟨h1, 0, none⟩)) a6)))).eval ⟨some x, .alloc tf, y8, s8, e8, none⟩).run P w = .ok (.value (.pointer (some ⟨w.heap.size, 0, none⟩))) (w.alloc (.cells #[z] tf)) := by simp [execOp, hz]
      rw [hrun, Oper.upon_value]
      have hma : Mods (fun _ => False) w (w.alloc (.cells #[z] tf)) := Mods.alloc _ _ _
      have hc := cell_one w z tf
      have hob := heap_alloc_new w (.cells #[z] tf)
      refine ⟨l3, l7, true, l9, false, l11, w.heap.size, h1, rfl, by rw [cput_put m2, cput_put m4]; rfl, hm.trans hma, fun _ => ⟨hm.size, by simp, hc, fun j => by unfold World.frozen?; rw [hob]; simp⟩, fun e => ?_, fun _ e => ?_, fun e => by simp at e, k11⟩
      · obtain ⟨r1, r2, r3, r4⟩ := k9 e
        exact ⟨r1, Nat.lt_of_lt_of_le r2 hma.size, hma.cell r3 (fun h => h), fun j => by rw [World.frozen?_of_block (hma.block h1 r2 fun h => h)]; exact r4 j⟩
      · obtain ⟨r1, r2, _⟩ := k9 e
        omega
    | 9, _ =>
      have e : l9 = false := by simpa [lst] using hfree
      subst e
      have e11 : l11 = false := by cases l11 <;> simp_all
      subst e11
      unfold wpOp
      rw [o9]
      simp only [Region.wanted, if_true]
      refine .inl ?_
      unfold Oper.wp
      have hrun : (execOp (cput l3 d3 vA (cput l7 d7 vB (cput l8 x (.pointer (some ⟨h0, 0, none⟩)) (cput false y (.pointer (some ⟨h1, 0, none⟩)) a6)))).eval ⟨some y, .alloc tf, y9, s9, e9, none⟩).run P w = .ok (.value (.pointer (some ⟨w.heap.size, 0, none⟩))) (w.alloc (.cells #[z] tf)) := by simp [execOp, hz]
      rw [hrun, Oper.upon_value]
      have hma : Mods (fun _ => False) w (w.alloc (.cells #[z] tf)) := Mods.alloc _ _ _
      have hc := cell_one w z tf
      have hob := heap_alloc_new w (.cells #[z] tf)
      refine ⟨l3, l7, l8, true, l10, false, h0, w.heap.size, rfl, by rw [cput_put m3, cput_put m5, cput_put m6]; rfl, hm.trans hma, fun e => ?_, fun _ => ⟨hm.size, by simp, hc, fun j => by unfold World.frozen?; rw [hob]; simp⟩, fun e _ => ?_, k10, fun e => by simp at e⟩
      · obtain ⟨r1, r2, r3, r4⟩ := k8 e
        exact ⟨r1, Nat.lt_of_lt_of_le r2 hma.size, hma.cell r3 (fun h => h), fun j => by rw [World.frozen?_of_block (hma.block h0 r2 fun h => h)]; exact r4 j⟩
      · obtain ⟨r1, r2, _⟩ := k8 e
        omega
    | 10, _ =>
      obtain ⟨e3, e8⟩ := (hdep l3 l7 l8 l9 l10 l11).1 (by simpa using hr0)
      subst e3 e8
      have e10 : l10 = false := by simpa [lst] using hfree
      subst e10
      obtain ⟨r1, r2, r3, r4⟩ := k8 rfl
      have hx : (cput true d3 vA (cput l7 d7 vB (cput true x (.pointer (some ⟨h0, 0, none⟩)) (cput l9 y (.pointer (some ⟨h1, 0, none⟩)) a6)))).tmps[x]? = some (.pointer (some ⟨h0, 0, none⟩)) := cput_ne (cput_ne (put_at (n := n) (by rw [cput_size, hs]) b3) m4) m2
      have hv : (cput true d3 vA (cput l7 d7 vB (cput true x (.pointer (some ⟨h0, 0, none⟩)) (cput l9 y (.pointer (some ⟨h1, 0, none⟩)) a6)))).tmps[d3]? = some vA := put_at (n := n) (by simp only [cput_size, hs]) b1
      unfold wpOp
      rw [o10]
      simp only [Region.wanted, if_true]
      refine .inl ?_
      unfold Oper.wp
      rw [SA _ w h0 _ (eval_tmp hx) (eval_tmp hv) r3 (r4 0), Oper.upon_skip]
      have hms : Mods (fun k => k = h0) w (w.setCell ⟨h0, 0, none⟩ vA) := Mods.setCell (F := fun k => k = h0) (a := ⟨h0, 0, none⟩) rfl _
      refine ⟨true, l7, true, l9, true, l11, h0, h1, rfl, rfl, hm.step hms fun k hk e => by omega, fun _ => ⟨r1, by simpa using r2, World.cell?_setCell_same w _ _ r3, fun j => by simpa using r4 j⟩, fun e => ?_, kne, fun _ => rfl, k11⟩
      obtain ⟨t1, t2, t3, t4⟩ := k9 e
      exact ⟨t1, by simpa using t2, by rw [World.cell?_setCell_other _ _ _ _ (fun e2 => kne rfl e (congrArg Addr.block e2))]; exact t3, fun j => by simpa using t4 j⟩
    | 11, _ =>
      obtain ⟨e7, e9⟩ := (hdep l3 l7 l8 l9 l10 l11).2.1 (by simpa using hr0)
      subst e7 e9
      have e11 : l11 = false := by simpa [lst] using hfree
      subst e11
      obtain ⟨r1, r2, r3, r4⟩ := k9 rfl
      have hx : (cput l3 d3 vA (cput true d7 vB (cput l8 x (.pointer (some ⟨h0, 0, none⟩)) (cput true y (.pointer (some ⟨h1, 0, none⟩)) a6)))).tmps[y]? = some (.pointer (some ⟨h1, 0, none⟩)) := cput_ne (cput_ne (cput_ne (put_at (n := n) hs b4) m6) m5) m3
      have hv : (cput l3 d3 vA (cput true d7 vB (cput l8 x (.pointer (some ⟨h0, 0, none⟩)) (cput true y (.pointer (some ⟨h1, 0, none⟩)) a6)))).tmps[d7]? = some vB := cput_ne (put_at (n := n) (by simp only [cput_size, hs]) b2) m1
      unfold wpOp
      rw [o11]
      simp only [Region.wanted, if_true]
      refine .inl ?_
      unfold Oper.wp
      rw [SB _ w h1 _ (eval_tmp hx) (eval_tmp hv) r3 (r4 0), Oper.upon_skip]
      have hms : Mods (fun k => k = h1) w (w.setCell ⟨h1, 0, none⟩ vB) := Mods.setCell (F := fun k => k = h1) (a := ⟨h1, 0, none⟩) rfl _
      refine ⟨l3, true, l8, true, l10, true, h0, h1, rfl, rfl, hm.step hms fun k hk e => by omega, fun e => ?_, fun _ => ⟨r1, by simpa using r2, World.cell?_setCell_same w _ _ r3, fun j => by simpa using r4 j⟩, kne, k10, fun _ => rfl⟩
      obtain ⟨t1, t2, t3, t4⟩ := k8 e
      exact ⟨t1, by simpa using t2, by rw [World.cell?_setCell_other _ _ _ _ (fun e2 => kne e rfl (congrArg Addr.block e2).symm)]; exact t3, fun j => by simpa using t4 j⟩
  · rintro listed a w ⟨l3, l7, l8, l9, l10, l11, h0, h1, rfl, rfl, hm, k8, k9, kne, k10, k11⟩ hr
    obtain ⟨⟨e3, e7⟩, ⟨e8, e9⟩, e10, e11⟩ := (hdep l3 l7 l8 l9 l10 l11).2.2 hr
    subst e3 e7 e8 e9 e10 e11
    obtain ⟨r1, r2, r3, r4⟩ := k8 rfl
    obtain ⟨t1, t2, t3, t4⟩ := k9 rfl
    exact hQ h0 h1 w (kne rfl rfl) r1 t1 hm r3 t3 ⟨r2, r4⟩ ⟨t2, t4⟩
  · exact ⟨false, false, false, false, false, false, 0, 0, rfl, rfl, Mods.refl _ _, fun e => by simp at e, fun e => by simp at e, fun e => by simp at e, fun e => by simp at e, fun e => by simp at e⟩

end Go.Proofs.Ytanknjpcgceccaa
