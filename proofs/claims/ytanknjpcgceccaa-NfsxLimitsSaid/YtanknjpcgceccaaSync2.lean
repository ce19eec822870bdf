/- What the coder writes it reads again: arguments of any procedure. Plain, no program. -/
import Derived.Test.YtanknjpcgceccaaSync
import Derived.Test.YtanknjpcgceccaaGen12
namespace Go.Proofs.Ytanknjpcgceccaa

/-- A choice by what was read. -/
theorem sync_pick {lay : List Ty} {h : X → X} {S : List Nat} {o : Nat} (ch : Option Value → X → X) (ho : o ∈ S) (hh : Sync lay h S) (hc : ∀ v, ∃ T, Sync lay (ch v) T) :
    Sync lay (fun x => ch ((h x).2 o) (h x)) S := by
  intro A b out hA
  obtain ⟨b1, d1, A1, e1, t1, k1, r1⟩ := hh A b out hA
  obtain ⟨T, hp⟩ := hc (A1 o)
  obtain ⟨b2, d2, A2, e2, t2, k2, r2⟩ := sync_comp hh hp A b out hA
  refine ⟨b2, d2, A2, by show ch ((h (.wr b out, A)).2 o) (h (.wr b out, A)) = _; rw [show (h (.wr b out, A)).2 o = A1 o by rw [e1]]; exact e2, t2, k2, fun hb => ?_⟩
  obtain ⟨hb0, q2⟩ := r2 hb
  refine ⟨hb0, fun inp Z hZ hpr => ?_⟩
  obtain ⟨Z2, z2, tz2, s2, u2⟩ := q2 inp Z hZ hpr
  have hpre : (out ++ d1) <+: inp ∧ b1 = false := by
    obtain ⟨b3, d3, A3, e3, t3, k3, r3⟩ := hp A1 b1 (out ++ d1) t1
    have e2' : ch (A1 o) (.wr b1 (out ++ d1), A1) = (.wr b2 (out ++ d2), A2) := by simpa only [e1] using e2
    rw [e3] at e2'
    simp only [Prod.mk.injEq, St.wr.injEq] at e2'
    obtain ⟨⟨rfl, h3⟩, _⟩ := e2'
    exact ⟨(List.prefix_append _ _).trans (h3 ▸ hpr), (r3 hb).1⟩
  obtain ⟨Z1, z1, tz1, s1, u1⟩ := (r1 hpre.2).2 inp Z hZ hpre.1
  refine ⟨Z2, ?_, tz2, fun j hj => s2 j (List.mem_append_left _ hj), u2⟩
  show ch ((h (.rd inp out.length 0 false, Z)).2 o) (h (.rd inp out.length 0 false, Z)) = _
  rw [show (h (.rd inp out.length 0 false, Z)).2 o = A1 o by rw [z1]; exact s1 o ho]
  exact z2
theorem sync_ite {lay : List Ty} {h f g : X → X} {S T U : List Nat} {o : Nat} (c : Option Value → Prop) [DecidablePred c] (ho : o ∈ S) (hh : Sync lay h S) (hf : Sync lay f T) (hg : Sync lay g U) :
    Sync lay (fun x => if c ((h x).2 o) then f (h x) else g (h x)) S := by
  have := sync_pick (fun v x => if c v then f x else g x) ho hh fun v => by
    by_cases hv : c v
    · exact ⟨T, by simpa only [hv, if_true] using hf⟩
    · exact ⟨U, by simpa only [hv, if_false] using hg⟩
  exact this

theorem sync_time {lay : List Ty} {o : Nat} (h0 : lay[o]? = some .u32) (h1 : lay[o + 1]? = some .u32) : Sync lay (pTime o) [o, o + 1] := sync_u32s h0 h1
/-- The time that is not set is nought. -/
theorem sync_zero {lay : List Ty} {t : Nat} (h0 : lay[t]? = some .u32) (h1 : lay[t + 1]? = some .u32) : Sync lay (fun y => (y.1, upd (upd y.2 t (.int .u32 0)) (t + 1) (.int .u32 0))) [t, t + 1] := by
  intro A b out hA
  have ty : ∀ A, Typed lay A → Typed lay (upd (upd A t (.int .u32 0)) (t + 1) (.int .u32 0)) := fun A hA => (hA.upd' h0 ⟨0, rfl, by decide, by decide⟩).upd' h1 ⟨0, rfl, by decide, by decide⟩
  refine ⟨b, [], _, by simp, ty A hA, fun j => ?_, fun hb => ⟨hb, fun inp Z hZ _ => ⟨_, by simp, ty Z hZ, fun j hj => ?_, fun j => ?_⟩⟩⟩
  · by_cases e : j = t + 1
    · subst e
      obtain ⟨v, hv, _⟩ := hA _ _ h1
      exact .inr ⟨⟨v, hv⟩, upd_at _ _ _⟩
    · rw [upd_ne _ _ e]
      by_cases e2 : j = t
      · subst e2
        obtain ⟨v, hv, _⟩ := hA _ _ h0
        exact .inr ⟨⟨v, hv⟩, upd_at _ _ _⟩
      · exact .inl (upd_ne _ _ e2)
  · simp only [List.mem_cons, List.not_mem_nil, or_false] at hj
    rcases hj with rfl | rfl
    · rw [upd_ne _ _ (by omega), upd_at, upd_ne _ _ (by omega), upd_at]
    · rw [upd_at, upd_at]
  · by_cases e : j = t + 1
    · subst e; exact .inl (by rw [upd_at, upd_at])
    · by_cases e2 : j = t
      · subst e2; exact .inl (by rw [upd_ne _ _ e, upd_at, upd_ne _ _ e, upd_at])
      · exact .inr ⟨by rw [upd_ne _ _ e, upd_ne _ _ e2], by rw [upd_ne _ _ e, upd_ne _ _ e2]⟩
theorem sync_how {lay : List Ty} {v t : Nat} (hv : lay[v]? = some .int) (h0 : lay[t]? = some .u32) (h1 : lay[t + 1]? = some .u32) : Sync lay (pHow v t) [v] :=
  sync_ite (fun x => iv x = 2) (by simp) (sync_number (by decide) (by decide) hv) (sync_time h0 h1) (sync_zero h0 h1)

/-- The layout, the data's cell whatever. -/
def argLay0 : List Ty := (argLay (.bool false)).set 28 .any
theorem Typed.lay0 {dv : Value} {A : Cells} (h : Typed (argLay dv) A) : Typed argLay0 A := by
  intro j t hj
  by_cases e : j = 28
  · subst e
    obtain rfl := Option.some.inj hj
    trivial
  · have h2 : argLay0[j]? = (argLay dv)[j]? := by
      have h3 : argLay dv = (argLay (.bool false)).set 28 (.is dv) := rfl
      rw [h3, argLay0, List.getElem?_set_ne (by omega), List.getElem?_set_ne (by omega)]
    exact h j t (h2 ▸ hj)
section
theorem sync_set : Sync argLay0 (pSet 5) ([5] ++ [6] ++ [7] ++ [8] ++ [13] ++ [14]) :=
  sync_comp (sync_comp (sync_comp (f := fun x => pIf 7 (num1 4 .u32 11) (pTruth 7 (pIf 6 (num1 4 .u32 10) (pTruth 6 (pIf 5 (pNumber 0 4294967295 9) (pTruth 5 x)))))) (S := [5] ++ [6] ++ [7])
    (sync_comp (f := fun x => pIf 6 (num1 4 .u32 10) (pTruth 6 (pIf 5 (pNumber 0 4294967295 9) (pTruth 5 x)))) (S := [5] ++ [6])
      (sync_comp (f := fun x => pIf 5 (pNumber 0 4294967295 9) (pTruth 5 x)) (S := [5]) (sync_if (by simp) (sync_truth rfl) (sync_number (by decide) (by decide) rfl))
        (g := fun x => pIf 6 (num1 4 .u32 10) (pTruth 6 x)) (T := [6]) (sync_if (by simp) (sync_truth rfl) (sync_u32 rfl)))
      (g := fun x => pIf 7 (num1 4 .u32 11) (pTruth 7 x)) (T := [7]) (sync_if (by simp) (sync_truth rfl) (sync_u32 rfl)))
    (g := fun x => pIf 8 (num1 8 .u64 12) (pTruth 8 x)) (T := [8]) (sync_if (by simp) (sync_truth rfl) (sync_u64 rfl)))
    (g := pHow 13 15) (T := [13]) (sync_how rfl rfl rfl)) (g := pHow 14 17) (T := [14]) (sync_how rfl rfl rfl)

theorem Sync.sub {lay : List Ty} {f : X → X} {S T : List Nat} (h : Sync lay f S) (hs : ∀ j ∈ T, j ∈ S) : Sync lay f T := by
  intro A b out hA
  obtain ⟨b', d, A', e, t, k, r⟩ := h A b out hA
  refine ⟨b', d, A', e, t, k, fun hb => ⟨(r hb).1, fun inp Z hZ hp => ?_⟩⟩
  obtain ⟨Z', z, tz, s, u⟩ := (r hb).2 inp Z hZ hp
  exact ⟨Z', z, tz, fun j hj => s j (hs j hj), u⟩

/-- Cells of a procedure that are always there. -/
def sure : Nat → List Nat
  | 3 | 9 | 12 | 13 => [0, 2]
  | 8 => [0, 2, 26]
  | 10 => [0, 2, 4]
  | 11 => [0, 2, 27]
  | 14 => [0, 2, 1, 3]
  | 15 => [0, 1, 3]
  | 101 | 103 => [4]
  | 1 | 2 | 4 | 5 | 6 | 7 | 16 | 17 | 18 | 19 | 20 | 21 => [0]
  | _ => []

theorem sync_11 : Sync argLay0 (pNamed 11) [27] :=
  sync_pick (h := pNumber 1 7 27) (o := 27) (fun v y => if iv v = 3 then nums 4 .u32 [34, 35] (pSet 5 y) else if iv v = 4 then nums 4 .u32 [34, 35] (pSet 5 y) else if iv v = 6 then pSet 5 y else if iv v = 7 then pSet 5 y else y)
    (by simp) (sync_number (by decide) (by decide) rfl) fun v => by
      by_cases h3 : iv v = 3
      · exact ⟨_, by simpa only [h3, if_true] using sync_comp sync_set (sync_u32s rfl rfl)⟩
      · by_cases h4 : iv v = 4
        · exact ⟨_, by simpa only [h4, if_true, show ¬ ((4 : Int) = 3) by decide, if_false] using sync_comp sync_set (sync_u32s rfl rfl)⟩
        · by_cases h6 : iv v = 6
          · exact ⟨_, by simpa only [h6, if_true, show ¬ ((6 : Int) = 3) by decide, show ¬ ((6 : Int) = 4) by decide, if_false] using sync_set⟩
          · by_cases h7 : iv v = 7
            · exact ⟨_, by simpa only [h7, if_true, show ¬ ((7 : Int) = 3) by decide, show ¬ ((7 : Int) = 4) by decide, show ¬ ((7 : Int) = 6) by decide, if_false] using sync_set⟩
            · exact ⟨_, by simpa only [h3, h4, h6, h7, if_false] using sync_id _⟩
theorem sync_8 : Sync argLay0 (pNamed 8) [26] :=
  sync_ite (h := pNumber 0 2 26) (fun x => iv x = 2) (by simp) (sync_number (by decide) (by decide) rfl) (sync_u64 rfl) sync_set

theorem sync_file : Sync argLay0 (pText 64 0) [0] := sync_text (by decide) rfl
theorem sync_name : Sync argLay0 (fun x => pText 255 2 (pText 64 0 x)) [0, 2] := sync_comp sync_file (sync_text (by decide) rfl)

theorem there_cases {k : Nat} (hk : thereN k) : k = 0 ∨ k = 1 ∨ k = 2 ∨ k = 3 ∨ k = 4 ∨ k = 5 ∨ k = 6 ∨ k = 7 ∨ k = 8 ∨ k = 9 ∨ k = 10 ∨ k = 11 ∨ k = 12 ∨ k = 13 ∨ k = 14 ∨ k = 15 ∨ k = 16 ∨ k = 17 ∨ k = 18 ∨ k = 19 ∨ k = 20 ∨ k = 21 ∨ k = 100 ∨ k = 101 ∨ k = 102 ∨ k = 103 ∨ k = 104 ∨ k = 105 := by unfold thereN at hk; omega
theorem sync_args (k : Nat) (hk : thereN k) : Sync argLay0 (pArgs k) (sure k) := by
  rcases there_cases hk with rfl | rfl | rfl | rfl | rfl | rfl | rfl | rfl | rfl | rfl | rfl | rfl | rfl | rfl | rfl | rfl | rfl | rfl | rfl | rfl | rfl | rfl | rfl | rfl | rfl | rfl | rfl | rfl
  · exact sync_id _
  · exact sync_file
  · exact (sync_comp (sync_comp sync_file sync_set) (sync_if (o := 19) (S := [19]) (by simp) (sync_truth rfl) (sync_time (o := 20) rfl rfl))).sub (by simp [sure])
  · exact sync_name
  · exact (sync_comp sync_file (sync_u32 rfl)).sub (by simp [sure])
  · exact sync_file
  · exact (sync_comp (sync_comp sync_file (sync_u64 (o := 23) rfl)) (sync_u32 (o := 24) rfl)).sub (by simp [sure])
  · exact (sync_comp (sync_comp (sync_comp sync_file (sync_u64 (o := 23) rfl)) (sync_u32 (o := 24) rfl)) (sync_number (o := 25) (lo := 0) (hi := 2) (by decide) (by decide) rfl)).sub (by simp [sure])
  · exact (sync_comp sync_name sync_8).sub (by simp [sure])
  · exact (sync_comp sync_name sync_set).sub (by simp [sure])
  · exact (sync_comp sync_name (sync_comp sync_set (sync_text (o := 4) (most := 1024) (by decide) rfl))).sub (by simp [sure])
  · exact (sync_comp sync_name sync_11).sub (by simp [sure])
  · exact sync_name
  · exact sync_name
  · exact (sync_comp sync_name (sync_comp (sync_text (o := 1) (most := 64) (by decide) rfl) (sync_text (o := 3) (most := 255) (by decide) rfl))).sub (by simp [sure])
  · exact (sync_comp (sync_comp sync_file (sync_text (o := 1) (most := 64) (by decide) rfl)) (sync_text (o := 3) (most := 255) (by decide) rfl)).sub (by simp [sure])
  · exact (sync_comp (sync_comp sync_file (sync_u64s (o := 30) (p := 31) rfl rfl)) (sync_u32 (o := 24) rfl)).sub (by simp [sure])
  · exact (sync_comp (sync_comp sync_file (sync_u64s (o := 30) (p := 31) rfl rfl)) (sync_u32s (o := 32) (p := 33) rfl rfl)).sub (by simp [sure])
  · exact sync_file
  · exact sync_file
  · exact sync_file
  · exact (sync_comp (sync_comp sync_file (sync_u64 (o := 23) rfl)) (sync_u32 (o := 24) rfl)).sub (by simp [sure])
  · exact sync_id _
  · exact sync_text (by decide) rfl
  · exact sync_id _
  · exact sync_text (by decide) rfl
  · exact sync_id _
  · exact sync_id _
end

theorem cellsOf_dv (a : ArgsV) (dv dv' : Value) {j : Nat} (h : j ≠ 28) : cellsOf a dv j = cellsOf a dv' j := by
  have : a.cells dv' = (a.cells dv).set 28 dv' := rfl
  unfold cellsOf
  rw [this, List.getElem?_set_ne (by omega)]
theorem ended_full (inp : List UInt8) : endedB inp inp.length 0 false = true := by simp [endedB]

/-- Arguments that are nought but for what is surely there. -/
def OnlySure (k : Nat) (a : ArgsV) : Prop := ∀ j, j < 36 → j ∉ sure k → j ≠ 28 → ∀ dv, cellsOf a dv j = cellsOf zeroArgs dv j
theorem zero_u32 {dv : Value} {j : Nat} {v : Int} (hj : j ≠ 28) (h : cellsOf zeroArgs dv j = some (.int .u32 v)) : v = 0 := by
  by_cases hlt : j < 36
  · have : ∀ j, j < 36 → j ≠ 28 → ∀ v, cellsOf zeroArgs dv j = some (.int .u32 v) → v = 0 := by
      intro j hj h28 v h
      match j, hj with
      | 0, _ => simp [cellsOf, zeroArgs, zeroSat, ArgsV.cells, SattrV.cells, TimeV.cells] at h
      | 1, _ => simp [cellsOf, zeroArgs, zeroSat, ArgsV.cells, SattrV.cells, TimeV.cells] at h
      | 2, _ => simp [cellsOf, zeroArgs, zeroSat, ArgsV.cells, SattrV.cells, TimeV.cells] at h
      | 3, _ => simp [cellsOf, zeroArgs, zeroSat, ArgsV.cells, SattrV.cells, TimeV.cells] at h
      | 4, _ => simp [cellsOf, zeroArgs, zeroSat, ArgsV.cells, SattrV.cells, TimeV.cells] at h
      | 5, _ => simp [cellsOf, zeroArgs, zeroSat, ArgsV.cells, SattrV.cells, TimeV.cells] at h
      | 6, _ => simp [cellsOf, zeroArgs, zeroSat, ArgsV.cells, SattrV.cells, TimeV.cells] at h
      | 7, _ => simp [cellsOf, zeroArgs, zeroSat, ArgsV.cells, SattrV.cells, TimeV.cells] at h
      | 8, _ => simp [cellsOf, zeroArgs, zeroSat, ArgsV.cells, SattrV.cells, TimeV.cells] at h
      | 9, _ => simp [cellsOf, zeroArgs, zeroSat, ArgsV.cells, SattrV.cells, TimeV.cells] at h
      | 10, _ => simp [cellsOf, zeroArgs, zeroSat, ArgsV.cells, SattrV.cells, TimeV.cells] at h; omega
      | 11, _ => simp [cellsOf, zeroArgs, zeroSat, ArgsV.cells, SattrV.cells, TimeV.cells] at h; omega
      | 12, _ => simp [cellsOf, zeroArgs, zeroSat, ArgsV.cells, SattrV.cells, TimeV.cells] at h
      | 13, _ => simp [cellsOf, zeroArgs, zeroSat, ArgsV.cells, SattrV.cells, TimeV.cells] at h
      | 14, _ => simp [cellsOf, zeroArgs, zeroSat, ArgsV.cells, SattrV.cells, TimeV.cells] at h
      | 15, _ => simp [cellsOf, zeroArgs, zeroSat, ArgsV.cells, SattrV.cells, TimeV.cells] at h; omega
      | 16, _ => simp [cellsOf, zeroArgs, zeroSat, ArgsV.cells, SattrV.cells, TimeV.cells] at h; omega
      | 17, _ => simp [cellsOf, zeroArgs, zeroSat, ArgsV.cells, SattrV.cells, TimeV.cells] at h; omega
      | 18, _ => simp [cellsOf, zeroArgs, zeroSat, ArgsV.cells, SattrV.cells, TimeV.cells] at h; omega
      | 19, _ => simp [cellsOf, zeroArgs, zeroSat, ArgsV.cells, SattrV.cells, TimeV.cells] at h
      | 20, _ => simp [cellsOf, zeroArgs, zeroSat, ArgsV.cells, SattrV.cells, TimeV.cells] at h; omega
      | 21, _ => simp [cellsOf, zeroArgs, zeroSat, ArgsV.cells, SattrV.cells, TimeV.cells] at h; omega
      | 22, _ => simp [cellsOf, zeroArgs, zeroSat, ArgsV.cells, SattrV.cells, TimeV.cells] at h; omega
      | 23, _ => simp [cellsOf, zeroArgs, zeroSat, ArgsV.cells, SattrV.cells, TimeV.cells] at h
      | 24, _ => simp [cellsOf, zeroArgs, zeroSat, ArgsV.cells, SattrV.cells, TimeV.cells] at h; omega
      | 25, _ => simp [cellsOf, zeroArgs, zeroSat, ArgsV.cells, SattrV.cells, TimeV.cells] at h
      | 26, _ => simp [cellsOf, zeroArgs, zeroSat, ArgsV.cells, SattrV.cells, TimeV.cells] at h
      | 27, _ => simp [cellsOf, zeroArgs, zeroSat, ArgsV.cells, SattrV.cells, TimeV.cells] at h
      | 28, _ => exact absurd rfl h28
      | 29, _ => simp [cellsOf, zeroArgs, zeroSat, ArgsV.cells, SattrV.cells, TimeV.cells] at h
      | 30, _ => simp [cellsOf, zeroArgs, zeroSat, ArgsV.cells, SattrV.cells, TimeV.cells] at h
      | 31, _ => simp [cellsOf, zeroArgs, zeroSat, ArgsV.cells, SattrV.cells, TimeV.cells] at h
      | 32, _ => simp [cellsOf, zeroArgs, zeroSat, ArgsV.cells, SattrV.cells, TimeV.cells] at h; omega
      | 33, _ => simp [cellsOf, zeroArgs, zeroSat, ArgsV.cells, SattrV.cells, TimeV.cells] at h; omega
      | 34, _ => simp [cellsOf, zeroArgs, zeroSat, ArgsV.cells, SattrV.cells, TimeV.cells] at h; omega
      | 35, _ => simp [cellsOf, zeroArgs, zeroSat, ArgsV.cells, SattrV.cells, TimeV.cells] at h; omega
      | j + 36, h => exact absurd h (by omega)
    exact this j hlt hj v h
  · unfold cellsOf at h
    rw [List.getElem?_eq_none (by show 36 ≤ j; omega)] at h
    cases h
theorem sure_ty {k j : Nat} (h : j ∈ sure k) : argLay0[j]? = some .str ∨ argLay0[j]? = some .int := by
  unfold sure at h
  split at h <;> simp only [List.mem_cons, List.not_mem_nil, or_false, or_self] at h
  all_goals first
    | (rcases h with rfl | rfl | rfl | rfl <;> first | exact .inl rfl | exact .inr rfl)
    | (rcases h with rfl | rfl | rfl <;> first | exact .inl rfl | exact .inr rfl)
    | (rcases h with rfl | rfl <;> first | exact .inl rfl | exact .inr rfl)
    | (subst h; first | exact .inl rfl | exact .inr rfl)

theorem argsOf_congr {A B : Cells} (h : ∀ j, j < 36 → j ≠ 28 → A j = B j) (ds : List UInt8) : argsOf A ds = argsOf B ds := by
  simp only [argsOf, h 0 (by decide) (by decide), h 1 (by decide) (by decide), h 2 (by decide) (by decide), h 3 (by decide) (by decide), h 4 (by decide) (by decide), h 5 (by decide) (by decide), h 6 (by decide) (by decide), h 7 (by decide) (by decide), h 8 (by decide) (by decide), h 9 (by decide) (by decide), h 10 (by decide) (by decide), h 11 (by decide) (by decide), h 12 (by decide) (by decide), h 13 (by decide) (by decide), h 14 (by decide) (by decide), h 15 (by decide) (by decide), h 16 (by decide) (by decide), h 17 (by decide) (by decide), h 18 (by decide) (by decide), h 19 (by decide) (by decide), h 20 (by decide) (by decide), h 21 (by decide) (by decide), h 22 (by decide) (by decide), h 23 (by decide) (by decide), h 24 (by decide) (by decide), h 25 (by decide) (by decide), h 26 (by decide) (by decide), h 27 (by decide) (by decide), h 29 (by decide) (by decide), h 30 (by decide) (by decide), h 31 (by decide) (by decide), h 32 (by decide) (by decide), h 33 (by decide) (by decide), h 34 (by decide) (by decide), h 35 (by decide) (by decide)]

/-- What was written is read whole: arguments that are nought but for what is surely there. -/
theorem args_back (k : Nat) (hk : thereN k) (ht : there (k : Int) = true) (a : ArgsV) (xo : Option Addr) (xc : Nat) (hg : a.good) (hf : a.few) (hs : OnlySure k a) (hd : k ≠ 7 → a.data = []) (out : List UInt8) (hw : wargs (k : Int) a (.slice xo a.data.length xc) = (out, 0)) :
    rargs (k : Int) out = (a, 0) := by
  have hA := (typed_cells hg hf (.slice xo a.data.length xc)).lay0
  have hZ := (typed_cells zero_good zero_few (.slice none 0 0)).lay0
  obtain ⟨b, d, A', e, t, kk, r⟩ := sync_args k hk (cellsOf a (.slice xo a.data.length xc)) false [] hA
  rw [List.nil_append] at e
  have hfin : ∀ (inp : List UInt8), b = false → d <+: inp → ∃ Z', pArgs k (.rd inp 0 0 false, cellsOf zeroArgs (.slice none 0 0)) = (.rd inp d.length 0 false, Z') ∧ ∀ ds, argsOf Z' ds = { a with data := ds } := by
    intro inp hb hp
    obtain ⟨Z', z, tz, s, u⟩ := (r hb).2 inp _ hZ (by simpa using hp)
    refine ⟨Z', by simpa using z, fun ds => ?_⟩
    rw [← argsOf_cells a (.slice xo a.data.length xc) ds]
    refine argsOf_congr (fun j hj h28 => ?_) ds
    by_cases hsj : j ∈ sure k
    · rw [s j hsj]
      rcases kk j with h | ⟨⟨v, h⟩, _⟩
      · exact h
      · exfalso
        rcases sure_ty hsj with q | q
        · obtain ⟨xs, h3, _⟩ := hA j _ q
          rw [h3] at h; cases h
        · obtain ⟨x, h3⟩ := hA j _ q
          rw [h3] at h; cases h
    · have h0 := hs j hj hsj h28
      have hAA : A' j = cellsOf a (.slice xo a.data.length xc) j := by
        rcases kk j with h | ⟨⟨v, h⟩, h'⟩
        · exact h
        · rw [h'] at *
          rw [h0] at h
          have := zero_u32 h28 h
          subst this
          rw [h0, h]
      rcases u j with h | ⟨h, h'⟩
      · rw [h, hAA]
      · rw [h, h0 (.slice xo a.data.length xc)]
        exact cellsOf_dv _ _ _ h28
  have hx : ∀ ds, (k = 7 → ds = a.data) → (k ≠ 7 → ds = []) → ({ a with data := ds } : ArgsV) = a := by
    intro ds h1 h2
    have : ds = a.data := by
      by_cases h7 : k = 7
      · exact h1 h7
      · rw [h2 h7, hd h7]
    rw [this]
  simp only [wargs, ht, if_true, Int.toNat_natCast, pAll] at hw
  simp only [rargs, ht, if_true, Int.toNat_natCast, pAll]
  by_cases h7 : k = 7
  · simp only [h7, if_true] at hw ⊢
    rw [h7] at e hfin
    rw [e] at hw
    simp only [St.row] at hw
    have hb : b = false ∧ (a.data.length : Int) ≤ 8192 ∧ out = d ++ row a.data := by
      cases hbb : (b || !decide ((a.data.length : Int) ≤ 8192))
      · rw [hbb] at hw
        simp only [Prod.mk.injEq, and_true] at hw
        simp only [Bool.or_eq_false_iff, Bool.not_eq_false', decide_eq_true_eq] at hbb
        exact ⟨hbb.1, hbb.2, hw.symm⟩
      · rw [hbb] at hw
        simp at hw
    obtain ⟨hb, hl, rfl⟩ := hb
    obtain ⟨Z', z, hz⟩ := hfin (d ++ row a.data) hb (List.prefix_append _ _)
    have hf5 := hf.2.2.2.2.2
    have hr := rbytes_full (bs := d ++ row a.data) (at_ := d.length) (xs := a.data) (suf := []) (by rw [List.drop_left' rfl, List.append_nil]) (by simp) (by omega) hl
    rw [z]
    simp only [St.row, hr]
    rw [show d.length + (row a.data).length = (d ++ row a.data).length by simp, ended_full, if_pos rfl, hz, hx a.data (fun _ => rfl) (fun h => absurd h7 h)]
  · simp only [h7, if_false] at hw ⊢
    rw [e] at hw
    have hb : b = false ∧ out = d := by
      cases b
      · simp only [Prod.mk.injEq, and_true] at hw
        exact ⟨rfl, hw.symm⟩
      · simp at hw
    obtain ⟨hb, rfl⟩ := hb
    obtain ⟨Z', z, hz⟩ := hfin out hb (List.prefix_refl _)
    rw [z]
    simp only [ended_full, if_true, hz]
    rw [hx [] (fun h => absurd h h7) (fun _ => rfl)]

end Go.Proofs.Ytanknjpcgceccaa
