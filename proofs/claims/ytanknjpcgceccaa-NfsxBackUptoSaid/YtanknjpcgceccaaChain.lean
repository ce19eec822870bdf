/- A chain of comparisons '&&' | '||' in one region, link by link: the frame is whatever, but for the slots that matter. No program. -/
import Derived.WalkKit
import Derived.Handy
namespace Go.Proofs.Ytanknjpcgceccaa

/-- Slots p and q hold two values, slot m a truth. -/
structure Inv (a : Act) (n p q : Nat) (pp qq : Value) (m : Nat) (k : Bool) : Prop where
  size : a.tmps.size = n
  defers : a.defers = []
  hp : a.tmps[p]? = some pp
  hq : a.tmps[q]? = some qq
  hm : a.tmps[m]? = some (.bool k)

theorem put_ne {a : Act} {d e : Nat} {v x : Value} (h : a.tmps[e]? = some x) (hne : d ≠ e) : (a.put (some d) v).tmps[e]? = some x := by
  simp only [Act.put]; rw [Array.getElem?_setIfInBounds_ne hne]; exact h
theorem put_at {a : Act} {d : Nat} {v : Value} {n : Nat} (hs : a.tmps.size = n) (h : d < n) : (a.put (some d) v).tmps[d]? = some v := by
  simp only [Act.put]; rw [Array.getElem?_setIfInBounds_self_of_lt (by omega)]
theorem eval_tmp {a : Act} {t : Nat} {v : Value} (h : a.tmps[t]? = some v) : a.eval (.tmp t) = v := by simp [Act.eval, h]
theorem putsize (a : Act) (d : Nat) (v : Value) : (a.put (some d) v).tmps.size = a.tmps.size := by simp [Act.put]
theorem putdefers (a : Act) (d : Nat) (v : Value) : (a.put (some d) v).defers = a.defers := rfl

section
variable {P : Program} {ops : Array Oper} {Q : Exit → Act → World → Prop} {rest : List Oper} {a : Act} {w : World} {n p q m : Nat} {pp qq : Value} {k : Bool}

theorem Inv.put (h : Inv a n p q pp qq m k) {d : Nat} {v : Value} (hd : d ≠ p ∧ d ≠ q ∧ d ≠ m) : Inv (a.put (some d) v) n p q pp qq m k :=
  ⟨(putsize _ _ _).trans h.size, h.defers, put_ne h.hp hd.1, put_ne h.hq hd.2.1, put_ne h.hm hd.2.2⟩
theorem Inv.set (h : Inv a n p q pp qq m k) {d : Nat} {b : Bool} (hd : d ≠ p ∧ d ≠ q ∧ d < n) : Inv (a.put (some d) (.bool b)) n p q pp qq d b :=
  ⟨(putsize _ _ _).trans h.size, h.defers, put_ne h.hp hd.1, put_ne h.hq hd.2.1, put_at h.size hd.2.2⟩
theorem Inv.shift (h : Inv a n p q pp qq m k) {m' : Nat} {k' : Bool} (hm : a.tmps[m']? = some (.bool k')) : Inv a n p q pp qq m' k' := ⟨h.size, h.defers, h.hp, h.hq, hm⟩

/-- An operation's guard is met, for whatever frame in which slot m holds the truth k. -/
def On (ops : Array Oper) (m : Nat) (k : Bool) : Option (Nat × Bool) → Prop
  | none => True
  | some (j, want) => (ops[j]?).bind (·.dst) = some m ∧ k = want
theorem On.wanted {g : Option (Nat × Bool)} (h : On ops m k g) (hm : a.tmps[m]? = some (.bool k)) {o : Oper} (ho : o.guard = g) : Region.wanted o (yielded ops a.tmps) = true := by
  unfold Region.wanted
  rw [ho]
  cases g with
  | none => rfl
  | some x =>
    obtain ⟨j, want⟩ := x
    obtain ⟨h1, rfl⟩ := h
    simp [yielded, h1, hm]
theorem off_wanted {j : Nat} {want : Bool} (h : (ops[j]?).bind (·.dst) = some m) (hk : k ≠ want) (hm : a.tmps[m]? = some (.bool k)) {o : Oper} (ho : o.guard = some (j, want)) : Region.wanted o (yielded ops a.tmps) = false := by
  unfold Region.wanted
  rw [ho]
  simp [yielded, h, hm, hk]

theorem wpList_val {o : Oper} {v : Value} (hw : Region.wanted o (yielded ops a.tmps) = true) (hr : (execOp a.eval o).run P w = .ok (.value v) w) (h : wpList P ops Q rest (a.put o.dst v) w) : wpList P ops Q (o :: rest) a w := by
  unfold wpList
  rw [if_pos hw]
  refine .inl ?_
  unfold Oper.wp
  rw [hr, Oper.upon_value]
  exact h
theorem wpList_off {o : Oper} (hw : Region.wanted o (yielded ops a.tmps) = false) (h : wpList P ops Q rest (a.put o.dst undef) w) : wpList P ops Q (o :: rest) a w := by
  unfold wpList
  rw [if_neg (by simp [hw])]
  exact h

/-- 'x.f': two operations. -/
theorem ch_load {g : Option (Nat × Bool)} {T t i x d1 d2 : Nat} {y1 y2 : TypeId} {s1 s2 : String} {e1 e2 : Array Edge} {px p1 v1 : Value}
    (hI : Inv a n p q pp qq m k) (hx : a.tmps[x]? = some px) (hg : On ops m k g)
    (hF : (Instr.fieldAt T px i).run P w = .ok p1 w) (hL : (Instr.loadAt t p1).run P w = .ok v1 w)
    (hd : (d1 ≠ p ∧ d1 ≠ q ∧ d1 ≠ m) ∧ (d2 ≠ p ∧ d2 ≠ q ∧ d2 ≠ m) ∧ d1 < n ∧ d2 < n)
    (h : ∀ a', Inv a' n p q pp qq m k → a'.tmps[d2]? = some v1 → (∀ s u, s ≠ d1 → s ≠ d2 → a.tmps[s]? = some u → a'.tmps[s]? = some u) → wpList P ops Q rest a' w) :
    wpList P ops Q (⟨some d1, .fieldAddr T (.tmp x) i, y1, s1, e1, g⟩ :: ⟨some d2, .load t (.tmp d1), y2, s2, e2, g⟩ :: rest) a w := by
  refine wpList_val (v := p1) (hg.wanted hI.hm rfl) ?_ ?_
  · simp [execOp, eval_tmp hx, hF]
  · have h1 : (a.put (some d1) p1).tmps[d1]? = some p1 := put_at hI.size hd.2.2.1
    have hI1 := hI.put (v := p1) hd.1
    refine wpList_val (v := v1) (hg.wanted hI1.hm rfl) ?_ ?_
    · simp [execOp, eval_tmp h1, hL]
    · exact h _ (hI1.put hd.2.1) (put_at hI1.size hd.2.2.2) fun s u h1 h2 hs => put_ne (put_ne hs (Ne.symm h1)) (Ne.symm h2)

/-- One value out of another. -/
theorem ch_val {o : Oper} {v : Value} {d : Nat} {g : Option (Nat × Bool)} (hI : Inv a n p q pp qq m k) (hg : On ops m k g) (ho : o.guard = g) (hdst : o.dst = some d) (hr : (execOp a.eval o).run P w = .ok (.value v) w)
    (hd : (d ≠ p ∧ d ≠ q ∧ d ≠ m) ∧ d < n)
    (h : ∀ a', Inv a' n p q pp qq m k → a'.tmps[d]? = some v → (∀ s u, s ≠ d → a.tmps[s]? = some u → a'.tmps[s]? = some u) → wpList P ops Q rest a' w) : wpList P ops Q (o :: rest) a w := by
  refine wpList_val (hg.wanted hI.hm ho) hr ?_
  rw [hdst]
  exact h _ (hI.put hd.1) (put_at hI.size hd.2) fun s u h1 hs => put_ne hs (Ne.symm h1)

/-- 'x.f == y.f' -/
theorem ch_cmp {g : Option (Nat × Bool)} {op : BinOp} {T t t' i d1 d2 d3 d4 d5 : Nat} {y1 y2 y3 y4 y5 : TypeId} {s1 s2 s3 s4 s5 : String} {e1 e2 e3 e4 e5 : Array Edge} {p1 v1 p2 v2 : Value} {b : Bool}
    (hI : Inv a n p q pp qq m k) (hg : On ops m k g)
    (hF : (Instr.fieldAt T pp i).run P w = .ok p1 w) (hL : (Instr.loadAt t p1).run P w = .ok v1 w)
    (hF2 : (Instr.fieldAt T qq i).run P w = .ok p2 w) (hL2 : (Instr.loadAt t p2).run P w = .ok v2 w)
    (hC : (do eqGuard op t (.tmp d2) (.tmp d4) v1 v2; binOp op t v1 v2).run P w = .ok (.bool b) w)
    (hd : (d1 ≠ p ∧ d1 ≠ q ∧ d1 ≠ m) ∧ (d2 ≠ p ∧ d2 ≠ q ∧ d2 ≠ m) ∧ (d3 ≠ p ∧ d3 ≠ q ∧ d3 ≠ m) ∧ (d4 ≠ p ∧ d4 ≠ q ∧ d4 ≠ m) ∧ (d5 ≠ p ∧ d5 ≠ q ∧ d5 ≠ m) ∧ (d1 < n ∧ d2 < n ∧ d3 < n ∧ d4 < n ∧ d5 < n) ∧ d2 ≠ d3 ∧ d2 ≠ d4)
    (h : ∀ a', Inv a' n p q pp qq m k → a'.tmps[d5]? = some (.bool b) → wpList P ops Q rest a' w) :
    wpList P ops Q (⟨some d1, .fieldAddr T (.tmp p) i, y1, s1, e1, g⟩ :: ⟨some d2, .load t (.tmp d1), y2, s2, e2, g⟩ :: ⟨some d3, .fieldAddr T (.tmp q) i, y3, s3, e3, g⟩ :: ⟨some d4, .load t (.tmp d3), y4, s4, e4, g⟩ ::
      ⟨some d5, .binOp op t (.tmp d2) (.tmp d4) t', y5, s5, e5, g⟩ :: rest) a w := by
  obtain ⟨h1, h2, h3, h4, h5, ⟨l1, l2, l3, l4, l5⟩, n23, n24⟩ := hd
  refine ch_load hI hI.hp hg hF hL ⟨h1, h2, l1, l2⟩ fun a1 hI1 hv1 _ => ?_
  refine ch_load hI1 hI1.hq hg hF2 hL2 ⟨h3, h4, l3, l4⟩ fun a2 hI2 hv2 hk => ?_
  have hv1' := hk d2 v1 n23 n24 hv1
  refine ch_val (v := .bool b) hI2 hg rfl rfl ?_ ⟨h5, l5⟩ fun a3 hI3 hv3 _ => h a3 hI3 hv3
  have : (execOp a2.eval ⟨some d5, .binOp op t (.tmp d2) (.tmp d4) t', y5, s5, e5, g⟩) = (do pure (.value (← (do eqGuard op t (.tmp d2) (.tmp d4) v1 v2; binOp op t v1 v2)))) := by
    simp only [execOp, eval_tmp hv1', eval_tmp hv2]
  rw [this, Sem.run_bind, hC]
  rfl

/-- All of the guarded operations are passed over. -/
theorem ch_skip {j : Nat} {want : Bool} (hj : (ops[j]?).bind (·.dst) = some m) (hk : k ≠ want) (l : List Oper) :
    ∀ (a : Act), Inv a n p q pp qq m k → (∀ o ∈ l, o.guard = some (j, want) ∧ ∃ d, o.dst = some d ∧ d ≠ p ∧ d ≠ q ∧ d ≠ m) → (∀ a', Inv a' n p q pp qq m k → wpList P ops Q rest a' w) → wpList P ops Q (l ++ rest) a w := by
  induction l with
  | nil => intro a hI _ h; exact h a hI
  | cons o l ih =>
    intro a hI hl h
    obtain ⟨hg, d, hd, hne⟩ := hl o (by simp)
    refine wpList_off (off_wanted hj hk hI.hm hg) ?_
    rw [hd]
    exact ih _ (hI.put hne) (fun o ho => hl o (by simp [ho])) h

/-- 'c && x' | 'c || x': the pick. -/
theorem ch_pick {d x d' : Nat} {y z : TypeId} {s s' : String} {e e' : Array Edge} {b : Bool} {cx cy : Operand} {r : Bool} {isAnd : Bool}
    (hI : Inv a n p q pp qq m k) (hb : k = isAnd → a.tmps[x]? = some (.bool b))
    (hc : cx = bif isAnd then .tmp x else .const (.bool true)) (hc2 : cy = bif isAnd then .const (.bool false) else .tmp x)
    (hr : r = bif isAnd then k && b else k || b)
    (hd : (d ≠ p ∧ d ≠ q ∧ d < n) ∧ d' ≠ p ∧ d' ≠ q ∧ d' < n)
    {mv : Op} (hmv : mv = .move (.tmp d) ∨ mv = .assign (.tmp d))
    (h : ∀ a', Inv a' n p q pp qq d' r → wpList P ops Q rest a' w) :
    wpList P ops Q (⟨some d, .pick (.tmp m) cx cy, y, s, e, none⟩ :: ⟨some d', mv, z, s', e', none⟩ :: rest) a w := by
  refine wpList_val (v := .bool r) rfl ?_ ?_
  · subst hc hc2 hr
    cases isAnd <;> cases k <;> simp [execOp, eval_tmp hI.hm, asBool]
    · rw [eval_tmp (hb rfl)]
    · rfl
    · rfl
    · rw [eval_tmp (hb rfl)]
  · have hI1 := hI.set (b := r) hd.1
    refine wpList_val (v := .bool r) rfl ?_ (h _ (hI1.set hd.2))
    rcases hmv with rfl | rfl <;> simp [execOp, eval_tmp hI1.hm]

/-- The first comparison. -/
theorem ch_first {op : BinOp} {T t t' i d1 d2 d3 d4 d5 d6 : Nat} {y1 y2 y3 y4 y5 y6 : TypeId} {s1 s2 s3 s4 s5 s6 : String} {e1 e2 e3 e4 e5 e6 : Array Edge} {p1 v1 p2 v2 : Value} {b : Bool}
    (hI : Inv a n p q pp qq m k)
    (hF : (Instr.fieldAt T pp i).run P w = .ok p1 w) (hL : (Instr.loadAt t p1).run P w = .ok v1 w)
    (hF2 : (Instr.fieldAt T qq i).run P w = .ok p2 w) (hL2 : (Instr.loadAt t p2).run P w = .ok v2 w)
    (hC : (do eqGuard op t (.tmp d2) (.tmp d4) v1 v2; binOp op t v1 v2).run P w = .ok (.bool b) w)
    (hd : (d1 ≠ p ∧ d1 ≠ q ∧ d1 ≠ m) ∧ (d2 ≠ p ∧ d2 ≠ q ∧ d2 ≠ m) ∧ (d3 ≠ p ∧ d3 ≠ q ∧ d3 ≠ m) ∧ (d4 ≠ p ∧ d4 ≠ q ∧ d4 ≠ m) ∧ (d5 ≠ p ∧ d5 ≠ q ∧ d5 ≠ m) ∧ (d1 < n ∧ d2 < n ∧ d3 < n ∧ d4 < n ∧ d5 < n) ∧ d2 ≠ d3 ∧ d2 ≠ d4)
    (hd6 : d6 ≠ p ∧ d6 ≠ q ∧ d6 < n)
    (h : ∀ a', Inv a' n p q pp qq d6 b → wpList P ops Q rest a' w) :
    wpList P ops Q (⟨some d1, .fieldAddr T (.tmp p) i, y1, s1, e1, none⟩ :: ⟨some d2, .load t (.tmp d1), y2, s2, e2, none⟩ :: ⟨some d3, .fieldAddr T (.tmp q) i, y3, s3, e3, none⟩ :: ⟨some d4, .load t (.tmp d3), y4, s4, e4, none⟩ ::
      ⟨some d5, .binOp op t (.tmp d2) (.tmp d4) t', y5, s5, e5, none⟩ :: ⟨some d6, .move (.tmp d5), y6, s6, e6, none⟩ :: rest) a w := by
  refine ch_cmp hI (g := none) trivial hF hL hF2 hL2 hC hd fun a1 hI1 hv => ?_
  refine wpList_val (v := .bool b) rfl ?_ (h _ (hI1.set hd6))
  simp [execOp, eval_tmp hv]

/-- A link: seven operations. -/
theorem ch_link {isAnd : Bool} {j : Nat} {op : BinOp} {T t t' i d1 d2 d3 d4 d5 d6 d7 : Nat} {y1 y2 y3 y4 y5 y6 y7 : TypeId} {s1 s2 s3 s4 s5 s6 s7 : String} {e1 e2 e3 e4 e5 e6 e7 : Array Edge} {p1 v1 p2 v2 : Value} {b r : Bool} {cx cy : Operand} {mv : Op}
    (hI : Inv a n p q pp qq m k) (hj : (ops[j]?).bind (·.dst) = some m)
    (hF : (Instr.fieldAt T pp i).run P w = .ok p1 w) (hL : (Instr.loadAt t p1).run P w = .ok v1 w)
    (hF2 : (Instr.fieldAt T qq i).run P w = .ok p2 w) (hL2 : (Instr.loadAt t p2).run P w = .ok v2 w)
    (hC : (do eqGuard op t (.tmp d2) (.tmp d4) v1 v2; binOp op t v1 v2).run P w = .ok (.bool b) w)
    (hc : cx = bif isAnd then .tmp d5 else .const (.bool true)) (hc2 : cy = bif isAnd then .const (.bool false) else .tmp d5)
    (hr : r = bif isAnd then k && b else k || b) (hmv : mv = .move (.tmp d6) ∨ mv = .assign (.tmp d6))
    (hd : (d1 ≠ p ∧ d1 ≠ q ∧ d1 ≠ m) ∧ (d2 ≠ p ∧ d2 ≠ q ∧ d2 ≠ m) ∧ (d3 ≠ p ∧ d3 ≠ q ∧ d3 ≠ m) ∧ (d4 ≠ p ∧ d4 ≠ q ∧ d4 ≠ m) ∧ (d5 ≠ p ∧ d5 ≠ q ∧ d5 ≠ m) ∧ (d1 < n ∧ d2 < n ∧ d3 < n ∧ d4 < n ∧ d5 < n) ∧ d2 ≠ d3 ∧ d2 ≠ d4)
    (hd6 : (d6 ≠ p ∧ d6 ≠ q ∧ d6 < n) ∧ d7 ≠ p ∧ d7 ≠ q ∧ d7 < n)
    (h : ∀ a', Inv a' n p q pp qq d7 r → wpList P ops Q rest a' w) :
    wpList P ops Q (⟨some d1, .fieldAddr T (.tmp p) i, y1, s1, e1, some (j, isAnd)⟩ :: ⟨some d2, .load t (.tmp d1), y2, s2, e2, some (j, isAnd)⟩ :: ⟨some d3, .fieldAddr T (.tmp q) i, y3, s3, e3, some (j, isAnd)⟩ :: ⟨some d4, .load t (.tmp d3), y4, s4, e4, some (j, isAnd)⟩ ::
      ⟨some d5, .binOp op t (.tmp d2) (.tmp d4) t', y5, s5, e5, some (j, isAnd)⟩ :: ⟨some d6, .pick (.tmp m) cx cy, y6, s6, e6, none⟩ :: ⟨some d7, mv, y7, s7, e7, none⟩ :: rest) a w := by
  by_cases hk : k = isAnd
  · refine ch_cmp hI (g := some (j, isAnd)) ⟨hj, hk⟩ hF hL hF2 hL2 hC hd fun a1 hI1 hv => ?_
    exact ch_pick (b := b) hI1 (fun _ => hv) hc hc2 hr hd6 hmv h
  · refine ch_skip hj hk [_, _, _, _, _] a hI ?_ fun a1 hI1 => ?_
    · obtain ⟨h1, h2, h3, h4, h5, _⟩ := hd
      intro o ho
      simp only [List.mem_cons, List.not_mem_nil, or_false] at ho
      rcases ho with rfl | rfl | rfl | rfl | rfl
      · exact ⟨rfl, _, rfl, h1⟩
      · exact ⟨rfl, _, rfl, h2⟩
      · exact ⟨rfl, _, rfl, h3⟩
      · exact ⟨rfl, _, rfl, h4⟩
      · exact ⟨rfl, _, rfl, h5⟩
    · exact ch_pick (b := b) hI1 (fun e => absurd e hk) hc hc2 hr hd6 hmv h
end

theorem park_field {P : Program} {ops : Array Oper} {Q : Exit → Act → World → Prop} {rest : List Oper} {a : Act} {w : World} {T i : Nat} {x : Operand} {y : TypeId} {s : String} {e : Array Edge} {g : Option (Nat × Bool)} (d : Nat)
    (h : RowKit.Hid (wpList P ops Q (⟨some d, .fieldAddr T x i, y, s, e, g⟩ :: rest) a w)) : wpList P ops Q (⟨some d, .fieldAddr T x i, y, s, e, g⟩ :: rest) a w := h.out

/-- A link of whatever operations. -/
theorem ch_linkG {P : Program} {ops : Array Oper} {Q : Exit → Act → World → Prop} {rest : List Oper} {a : Act} {w : World} {n p q m : Nat} {pp qq : Value} {k : Bool} (l : List Oper) (R : World → Prop) {isAnd : Bool} {j : Nat} {x d6 d7 : Nat} {y6 y7 : TypeId} {s6 s7 : String} {e6 e7 : Array Edge} {b r : Bool} {cx cy : Operand} {mv : Op}
    (hI : Inv a n p q pp qq m k) (hj : (ops[j]?).bind (·.dst) = some m) (hR : R w)
    (hl : ∀ o ∈ l, o.guard = some (j, isAnd) ∧ ∃ d, o.dst = some d ∧ d ≠ p ∧ d ≠ q ∧ d ≠ m)
    (hc : cx = bif isAnd then .tmp x else .const (.bool true)) (hc2 : cy = bif isAnd then .const (.bool false) else .tmp x)
    (hr : r = bif isAnd then k && b else k || b) (hmv : mv = .move (.tmp d6) ∨ mv = .assign (.tmp d6))
    (hd6 : (d6 ≠ p ∧ d6 ≠ q ∧ d6 < n) ∧ d7 ≠ p ∧ d7 ≠ q ∧ d7 < n)
    (hrun : On ops m k (some (j, isAnd)) → ∀ K : Act → World → Prop, (∀ a' w', R w' → Inv a' n p q pp qq m k → a'.tmps[x]? = some (.bool b) → K a' w') → (∀ a' w', K a' w' → wpList P ops Q (⟨some d6, .pick (.tmp m) cx cy, y6, s6, e6, none⟩ :: ⟨some d7, mv, y7, s7, e7, none⟩ :: rest) a' w') →
      wpList P ops Q (l ++ ⟨some d6, .pick (.tmp m) cx cy, y6, s6, e6, none⟩ :: ⟨some d7, mv, y7, s7, e7, none⟩ :: rest) a w)
    (h : ∀ a' w', R w' → Inv a' n p q pp qq d7 r → wpList P ops Q rest a' w') :
    wpList P ops Q (l ++ ⟨some d6, .pick (.tmp m) cx cy, y6, s6, e6, none⟩ :: ⟨some d7, mv, y7, s7, e7, none⟩ :: rest) a w := by
  by_cases hk : k = isAnd
  · exact hrun ⟨hj, hk⟩ (fun a' w' => R w' ∧ Inv a' n p q pp qq m k ∧ a'.tmps[x]? = some (.bool b)) (fun a' w' hR' hI' hx => ⟨hR', hI', hx⟩) fun a' w' ⟨hR', hI', hx⟩ => ch_pick (b := b) hI' (fun _ => hx) hc hc2 hr hd6 hmv fun a2 h2 => h a2 w' hR' h2
  · exact ch_skip hj hk l a hI hl fun a1 hI1 => ch_pick (b := b) hI1 (fun e => absurd e hk) hc hc2 hr hd6 hmv fun a2 h2 => h a2 w hR h2

/-- A call of a function, between. -/
theorem ch_call {P : Program} {ops : Array Oper} {Q : Exit → Act → World → Prop} {rest : List Oper} {a : Act} {w : World} {n p q m : Nat} {pp qq : Value} {k : Bool} {R : World → Prop} {o : Oper} {v : Value} {d : Nat} {g : Option (Nat × Bool)} {f : FuncId} {args : Array Value}
    (hI : Inv a n p q pp qq m k) (hg : On ops m k g) (ho : o.guard = g) (hdst : o.dst = some d) (hr : (execOp a.eval o).run P w = .ok (.enter f args) w)
    (hc : Calls P f args w fun e w' => e = .returned v ∧ R w') (hd : (d ≠ p ∧ d ≠ q ∧ d ≠ m) ∧ d < n)
    (h : ∀ a' w', R w' → Inv a' n p q pp qq m k → a'.tmps[d]? = some v → wpList P ops Q rest a' w') : wpList P ops Q (o :: rest) a w := by
  unfold wpList
  rw [if_pos (hg.wanted hI.hm ho)]
  refine .inl ?_
  unfold Oper.wp
  rw [hr, Oper.upon_enter]
  refine hc.mono ?_
  rintro e w' ⟨rfl, hR⟩
  rw [hdst]
  exact h _ _ hR (hI.put hd.1) (put_at hI.size hd.2)

/-- The last pick: nothing behind it. -/
theorem ch_pick1 {P : Program} {ops : Array Oper} {Q : Exit → Act → World → Prop} {rest : List Oper} {a : Act} {w : World} {n p q m : Nat} {pp qq : Value} {k : Bool} {d x : Nat} {y : TypeId} {s : String} {e : Array Edge} {b : Bool} {cx cy : Operand} {r : Bool} {isAnd : Bool}
    (hI : Inv a n p q pp qq m k) (hb : k = isAnd → a.tmps[x]? = some (.bool b))
    (hc : cx = bif isAnd then .tmp x else .const (.bool true)) (hc2 : cy = bif isAnd then .const (.bool false) else .tmp x)
    (hr : r = bif isAnd then k && b else k || b) (hd : d ≠ p ∧ d ≠ q ∧ d < n)
    (h : ∀ a', Inv a' n p q pp qq d r → wpList P ops Q rest a' w) :
    wpList P ops Q (⟨some d, .pick (.tmp m) cx cy, y, s, e, none⟩ :: rest) a w := by
  refine wpList_val (v := .bool r) rfl ?_ (h _ (hI.set hd))
  subst hc hc2 hr
  cases isAnd <;> cases k <;> simp [execOp, eval_tmp hI.hm, asBool]
  · rw [eval_tmp (hb rfl)]
  · rfl
  · rfl
  · rw [eval_tmp (hb rfl)]
/-- A link of whatever operations, the last one. -/
theorem ch_linkG1 {P : Program} {ops : Array Oper} {Q : Exit → Act → World → Prop} {rest : List Oper} {a : Act} {w : World} {n p q m : Nat} {pp qq : Value} {k : Bool} (l : List Oper) (R : World → Prop) {isAnd : Bool} {j : Nat} {x d6 : Nat} {y6 : TypeId} {s6 : String} {e6 : Array Edge} {b r : Bool} {cx cy : Operand}
    (hI : Inv a n p q pp qq m k) (hj : (ops[j]?).bind (·.dst) = some m) (hR : R w)
    (hl : ∀ o ∈ l, o.guard = some (j, isAnd) ∧ ∃ d, o.dst = some d ∧ d ≠ p ∧ d ≠ q ∧ d ≠ m)
    (hc : cx = bif isAnd then .tmp x else .const (.bool true)) (hc2 : cy = bif isAnd then .const (.bool false) else .tmp x)
    (hr : r = bif isAnd then k && b else k || b) (hd6 : d6 ≠ p ∧ d6 ≠ q ∧ d6 < n)
    (hrun : On ops m k (some (j, isAnd)) → ∀ K : Act → World → Prop, (∀ a' w', R w' → Inv a' n p q pp qq m k → a'.tmps[x]? = some (.bool b) → K a' w') → (∀ a' w', K a' w' → wpList P ops Q (⟨some d6, .pick (.tmp m) cx cy, y6, s6, e6, none⟩ :: rest) a' w') →
      wpList P ops Q (l ++ ⟨some d6, .pick (.tmp m) cx cy, y6, s6, e6, none⟩ :: rest) a w)
    (h : ∀ a' w', R w' → Inv a' n p q pp qq d6 r → wpList P ops Q rest a' w') :
    wpList P ops Q (l ++ ⟨some d6, .pick (.tmp m) cx cy, y6, s6, e6, none⟩ :: rest) a w := by
  by_cases hk : k = isAnd
  · exact hrun ⟨hj, hk⟩ (fun a' w' => R w' ∧ Inv a' n p q pp qq m k ∧ a'.tmps[x]? = some (.bool b)) (fun a' w' hR' hI' hx => ⟨hR', hI', hx⟩) fun a' w' ⟨hR', hI', hx⟩ => ch_pick1 (b := b) hI' (fun _ => hx) hc hc2 hr hd6 fun a2 h2 => h a2 w' hR' h2
  · exact ch_skip hj hk l a hI hl fun a1 hI1 => ch_pick1 (b := b) hI1 (fun e => absurd e hk) hc hc2 hr hd6 fun a2 h2 => h a2 w hR h2

/-- A chain's answer, as a result. -/
theorem Inv.results {a : Act} {n p q : Nat} {pp qq : Value} {m : Nat} {k : Bool} (h : Inv a n p q pp qq m k) : a.tmps.getD m undef = .bool k := by
  have := h.hm
  rw [Array.getD_eq_getD_getElem?, this]; rfl

end Go.Proofs.Ytanknjpcgceccaa
