/- NfsxLimits: the plain law: what is as long as it may be is written and read, what is longer is not. No program. -/
import Derived.Test.YtanknjpcgceccaaSync2
namespace Go.Proofs.Ytanknjpcgceccaa

section
variable {A : Cells} {b : Bool} {out : List UInt8} {o : Nat}
theorem w_text {xs : List UInt8} (m : Int) (h : A o = some (.string (str xs))) : pText m o (.wr b out, A) = (.wr (b || !decide ((xs.length : Int) ≤ m)) (out ++ row xs), A) := by
  have hs : sv (A o) = xs := by rw [h, sv_str]
  simp only [pText, hs, St.row]
  rw [upd_self h]
theorem w_truth {v : Bool} (h : A o = some (.bool v)) : pTruth o (.wr b out, A) = (.wr b (out ++ be 4 (boolNum v)), A) := by
  have hs : bv (A o) = v := by rw [h]; rfl
  simp only [pTruth, hs, St.truth]
  rw [upd_self h]
theorem w_num {n : Nat} {k : IntKind} {v : Int} (h : A o = some (.int k v)) : num1 n k o (.wr b out, A) = (.wr b (out ++ be n v), A) := by
  have hs : iv (A o) = v := by rw [h]; rfl
  simp only [num1, hs, St.num]
  rw [upd_self h]
theorem w_number {lo hi v : Int} (h : A o = some (.int .i64 v)) : pNumber lo hi o (.wr b out, A) = (.wr (b || !decide (lo ≤ v ∧ v ≤ hi)) (out ++ be 4 (IntKind.u32.wrap v)), A) := by
  have hs : iv (A o) = v := by rw [h]; rfl
  simp only [pNumber, hs, St.number, St.must, St.num]
  rw [upd_self h]
theorem w_if0 {f : X → X} (h : A o = some (.bool false)) : pIf o f (.wr b out, A) = (.wr b out, A) := by
  simp [pIf, h, bv]
theorem w_how0 {t : Nat} (h : A o = some (.int .i64 0)) : ∃ d, pHow o t (.wr b out, A) = (.wr b (out ++ d), upd (upd A t (.int .u32 0)) (t + 1) (.int .u32 0)) := by
  refine ⟨be 4 (IntKind.u32.wrap 0), ?_⟩
  have hi : iv (A o) = 0 := by rw [h]; rfl
  simp only [pHow, w_number h, hi]
  rw [if_neg (by decide)]
  simp
end

/-- A set of nothing is written, whatever was written. -/
theorem w_set0 {A : Cells} {b : Bool} {out : List UInt8} (h5 : A 5 = some (.bool false)) (h6 : A 6 = some (.bool false)) (h7 : A 7 = some (.bool false)) (h8 : A 8 = some (.bool false)) (h13 : A 13 = some (.int .i64 0)) (h14 : A 14 = some (.int .i64 0)) :
    ∃ d A', pSet 5 (.wr b out, A) = (.wr b (out ++ d), A') ∧ A' 4 = A 4 := by
  unfold pSet
  simp only [w_truth h5, w_if0 h5, w_truth h6, w_if0 h6, w_truth h7, w_if0 h7, w_truth h8, w_if0 h8, Nat.reduceAdd]
  obtain ⟨d1, e1⟩ := w_how0 (b := b) (out := out ++ be 4 (boolNum false) ++ be 4 (boolNum false) ++ be 4 (boolNum false) ++ be 4 (boolNum false)) (t := 15) h13
  rw [e1]
  have h14' : upd (upd A 15 (.int .u32 0)) (15 + 1) (.int .u32 0) 14 = some (.int .i64 0) := by rw [upd_ne _ _ (by decide), upd_ne _ _ (by decide)]; exact h14
  obtain ⟨d2, e2⟩ := w_how0 (b := b) (out := out ++ be 4 (boolNum false) ++ be 4 (boolNum false) ++ be 4 (boolNum false) ++ be 4 (boolNum false) ++ d1) (t := 17) h14'
  rw [e2]
  refine ⟨be 4 (boolNum false) ++ be 4 (boolNum false) ++ be 4 (boolNum false) ++ be 4 (boolNum false) ++ d1 ++ d2, upd (upd (upd (upd A 15 (.int .u32 0)) (15 + 1) (.int .u32 0)) 17 (.int .u32 0)) (17 + 1) (.int .u32 0), ?_, by simp [upd]⟩
  simp

/-- The law's arguments: all nought but one. -/
def limA : Nat → List UInt8 → ArgsV
  | 0, s => { zeroArgs with file := s }
  | 1, s => { zeroArgs with name := s }
  | 2, s => { zeroArgs with path := s }
  | _, s => { zeroArgs with data := s }
def limP : Nat → Nat
  | 0 => 1
  | 1 => 3
  | 2 => 10
  | _ => 7
def limM : Nat → Nat
  | 0 => 64
  | 1 => 255
  | 2 => 1024
  | _ => 8192

theorem limA_good (j : Nat) (s : List UInt8) : (limA j s).good := by
  unfold limA
  split <;> exact zero_good
theorem limA_few (j : Nat) (s : List UInt8) (hs : s.length ≤ 100000) : (limA j s).few := by
  unfold limA
  split <;> simp [ArgsV.few, zeroArgs, hs]

theorem lim_w (j : Nat) (hj : j < 4) (s : List UInt8) (dv : Value) : ∃ out, wargs (limP j : Int) (limA j s) dv = if s.length ≤ limM j then (out, 0) else ([], 33) := by
  match j, hj with
  | 0, _ =>
    refine ⟨row s, ?_⟩
    have h0 : cellsOf (limA 0 s) dv 0 = some (.string (str s)) := rfl
    show wargs 1 _ _ = _
    simp only [wargs, show there 1 = true from rfl, if_true, show (1 : Int).toNat = 1 from rfl, pAll, show ¬ (1 = 7) by decide, if_false, pArgs, w_text 64 h0]
    by_cases h : s.length ≤ 64
    · rw [show decide ((s.length : Int) ≤ 64) = true by simp; omega]
      simp [limM, h]
    · rw [show decide ((s.length : Int) ≤ 64) = false by simp; omega]
      simp [limM, h]
  | 1, _ =>
    refine ⟨row [] ++ row s, ?_⟩
    have h0 : cellsOf (limA 1 s) dv 0 = some (.string (str [])) := rfl
    have h2 : cellsOf (limA 1 s) dv 2 = some (.string (str s)) := rfl
    show wargs 3 _ _ = _
    simp only [wargs, show there 3 = true from rfl, if_true, show (3 : Int).toNat = 3 from rfl, pAll, show ¬ (3 = 7) by decide, if_false, pArgs, w_text 64 h0, w_text 255 h2, pNamed]
    by_cases h : s.length ≤ 255
    · rw [show decide ((s.length : Int) ≤ 255) = true by simp; omega]
      simp [limM, h]
    · rw [show decide ((s.length : Int) ≤ 255) = false by simp; omega]
      simp [limM, h]
  | 2, _ =>
    have h0 : cellsOf (limA 2 s) dv 0 = some (.string (str [])) := rfl
    have h2 : cellsOf (limA 2 s) dv 2 = some (.string (str [])) := rfl
    have h4 : cellsOf (limA 2 s) dv 4 = some (.string (str s)) := rfl
    obtain ⟨d, A', e, e4⟩ := w_set0 (A := cellsOf (limA 2 s) dv) (b := false) (out := [] ++ row [] ++ row []) rfl rfl rfl rfl rfl rfl
    rw [h4] at e4
    refine ⟨[] ++ row [] ++ row [] ++ d ++ row s, ?_⟩
    show wargs 10 _ _ = _
    simp only [wargs, show there 10 = true from rfl, if_true, show (10 : Int).toNat = 10 from rfl, pAll, show ¬ (10 = 7) by decide, if_false, pArgs, w_text 64 h0, w_text 255 h2, pNamed]
    have hb : ∀ m : Int, 0 ≤ m → (false || !decide ((([] : List UInt8).length : Int) ≤ m)) = false := by intro m hm; simp; omega
    rw [hb 64 (by decide), hb 255 (by decide), e, w_text 1024 e4]
    by_cases h : s.length ≤ 1024
    · rw [show decide ((s.length : Int) ≤ 1024) = true by simp; omega]
      simp [limM, h]
    · rw [show decide ((s.length : Int) ≤ 1024) = false by simp; omega]
      simp [limM, h]
  | 3, _ =>
    have h0 : cellsOf (limA 3 s) dv 0 = some (.string (str [])) := rfl
    have h23 : cellsOf (limA 3 s) dv 23 = some (.int .u64 0) := rfl
    have h24 : cellsOf (limA 3 s) dv 24 = some (.int .u32 0) := rfl
    have h25 : cellsOf (limA 3 s) dv 25 = some (.int .i64 0) := rfl
    have hd : (limA 3 s).data = s := rfl
    refine ⟨[] ++ row [] ++ be 8 0 ++ be 4 0 ++ be 4 (IntKind.u32.wrap 0) ++ row s, ?_⟩
    show wargs 7 _ _ = _
    simp only [wargs, show there 7 = true from rfl, if_true, show (7 : Int).toNat = 7 from rfl, pAll, pArgs, w_text 64 h0, w_num h23, w_num h24, w_number h25, St.row, hd]
    by_cases h : s.length ≤ 8192
    · rw [show decide ((s.length : Int) ≤ 8192) = true by simp; omega]
      simp [limM, h]
    · rw [show decide ((s.length : Int) ≤ 8192) = false by simp; omega]
      simp [limM, h]

theorem lim_sure (j : Nat) (hj : j < 4) (s : List UInt8) : OnlySure (limP j) (limA j s) := by
  intro i hi hs h28 dv
  have hz : zeroArgs.cells dv = .string (str []) :: .string (str []) :: .string (str []) :: .string (str []) :: .string (str []) :: (zeroArgs.cells dv).drop 5 := rfl
  match j, hj with
  | 0, _ =>
    have : i ≠ 0 := fun e => hs (by rw [e]; simp [sure, limP])
    obtain ⟨m, rfl⟩ := Nat.exists_eq_succ_of_ne_zero this
    have hl : (limA 0 s).cells dv = .string (str s) :: .string (str []) :: .string (str []) :: .string (str []) :: .string (str []) :: (zeroArgs.cells dv).drop 5 := rfl
    unfold cellsOf
    rw [hl, hz]
    simp only [List.drop_succ_cons, List.drop_zero, List.getElem?_cons_succ]
  | 1, _ =>
    have h2 : i ≠ 2 := fun e => hs (by rw [e]; simp [sure, limP])
    have hl : (limA 1 s).cells dv = .string (str []) :: .string (str []) :: .string (str s) :: .string (str []) :: .string (str []) :: (zeroArgs.cells dv).drop 5 := rfl
    unfold cellsOf
    rw [hl, hz]
    simp only [List.drop_succ_cons, List.drop_zero]
    match i, h2 with
    | 0, _ => rfl
    | 1, _ => rfl
    | i + 3, _ => simp only [List.getElem?_cons_succ]
  | 2, _ =>
    have h4 : i ≠ 4 := fun e => hs (by rw [e]; simp [sure, limP])
    have hl : (limA 2 s).cells dv = .string (str []) :: .string (str []) :: .string (str []) :: .string (str []) :: .string (str s) :: (zeroArgs.cells dv).drop 5 := rfl
    unfold cellsOf
    rw [hl, hz]
    simp only [List.drop_succ_cons, List.drop_zero]
    match i, h4 with
    | 0, _ => rfl
    | 1, _ => rfl
    | 2, _ => rfl
    | 3, _ => rfl
    | i + 5, _ => simp only [List.getElem?_cons_succ]
  | 3, _ =>
    have hl : (limA 3 s).cells dv = zeroArgs.cells dv := rfl
    unfold cellsOf
    rw [hl]

theorem lim_there (j : Nat) (hj : j < 4) : thereN (limP j) := by
  match j, hj with
  | 0, _ => exact .inl (by decide)
  | 1, _ => exact .inl (by decide)
  | 2, _ => exact .inl (by decide)
  | 3, _ => exact .inl (by decide)
theorem lim_there2 (j : Nat) (hj : j < 4) : there (limP j : Int) = true := by
  match j, hj with
  | 0, _ => rfl
  | 1, _ => rfl
  | 2, _ => rfl
  | 3, _ => rfl
theorem lim_data (j : Nat) (hj : j < 4) (s : List UInt8) : limP j ≠ 7 → (limA j s).data = [] := by
  match j, hj with
  | 0, _ => exact fun _ => rfl
  | 1, _ => exact fun _ => rfl
  | 2, _ => exact fun _ => rfl
  | 3, _ => exact fun h => absurd rfl h

/-- THE PLAIN LAW. -/
theorem lim_plain (j : Nat) (hj : j < 4) (s : List UInt8) (hs : s.length ≤ 100000) (xo : Option Addr) (xc : Nat) :
    (s.length ≤ limM j ∧ ∃ out, wargs (limP j : Int) (limA j s) (.slice xo (limA j s).data.length xc) = (out, 0) ∧ rargs (limP j : Int) out = (limA j s, 0)) ∨
    (¬ s.length ≤ limM j ∧ wargs (limP j : Int) (limA j s) (.slice xo (limA j s).data.length xc) = ([], 33)) := by
  obtain ⟨out, ho⟩ := lim_w j hj s (.slice xo (limA j s).data.length xc)
  by_cases h : s.length ≤ limM j
  · rw [if_pos h] at ho
    refine .inl ⟨h, out, ho, ?_⟩
    refine args_back (limP j) ?_ ?_ (limA j s) xo xc (limA_good j s) (limA_few j s hs) (lim_sure j hj s) ?_ out ho
    · exact lim_there j hj
    · exact lim_there2 j hj
    · exact lim_data j hj s
  · rw [if_neg h] at ho
    exact .inr ⟨h, ho⟩

end Go.Proofs.Ytanknjpcgceccaa
