/- law19's NfsxSame answers true. -/
import Derived.Test.YtanknjpcgceccaaSameRR
import Derived.Test.YtanknjpcgceccaaKnown19
namespace Go.Proofs.Ytanknjpcgceccaa
open Go.RowKit

theorem q_call {P : Program} {ops : Array Oper} {C : World → Prop} {Q : Act → Prop} {rest : List Oper} {a : Act} {o : Oper} {v : Value} {f : FuncId} {args : Array Value} (hw : Region.wanted o (yielded ops a.tmps) = true)
    (hr : ∀ w, C w → (execOp a.eval o).run P w = .ok (.enter f args) w) (hc : ∀ w, C w → Calls P f args w fun e w' => e = .returned v ∧ C w') (h : wpQuiet P ops C Q rest (a.put o.dst v)) : wpQuiet P ops C Q (o :: rest) a := by
  unfold wpQuiet
  rw [if_pos hw]
  exact ⟨v, fun w hC => by unfold Oper.quietAt; rw [hr w hC]; exact ⟨rfl, hc w hC⟩, h⟩

theorem wp_region_quietC {P : Program} {id : Nat} {Q : Exit → Act → World → Prop} {a : Act} {w : World} {l : List Oper} (C : World → Prop) (hm : P.follows .mixedOrders = true) (hB : Region.lexB .any l.toArray = true) (hC : C w.drew)
    (h : wpQuiet P l.toArray C (fun a' => ∀ w', C w' → Q .normal a' w') l a) : (Code.region id l.toArray true).wp P Q a w :=
  wp_region_quiet (C := C) hm hB hC (by simpa using h)

theorem rangeAt_load {w : World} {g : Nat} {A : Array Value} {T : TypeId} {d : TypeDesc} (h : w.rangeAt g 0 A.toList) (hu : Try.prog.underlying T = some d) (hd : d.isRow = true) (hi : (Try.prog.info? T).map (·.size) = some A.size) :
    (Instr.loadAt T (.pointer (some ⟨g, 0, none⟩))).run Try.prog w = .ok (.agg A) w := by
  have := run_loadAt_mid (P := Try.prog) w g 0 T A.toList d h hu hd (by simpa using hi)
  simpa using this

/-- Of arguments and results all that the law asks. -/
structure AIn (w : World) (x : ArgsV) (A : Array Value) : Prop where
  got : ∃ ao cap, A = (x.cells (.slice ao x.data.length cap)).toArray ∧ SlB w ao cap x.data ∧ (∀ k, rb ao x.data.length k → k < w.heap.size) ∧ x.data.length ≤ 9223372036854775807
structure RIn (w : World) (x : ResV) (A : Array Value) : Prop where
  got : ∃ ao cap eo ec, A = (x.cells (.slice ao x.data.length cap) (.slice eo x.entries.length ec)).toArray ∧ SlB w ao cap x.data ∧ (∀ k, rb ao x.data.length k → k < w.heap.size) ∧ SlE w eo ec x.entries ∧ (∀ k, rb eo x.entries.length k → k < w.heap.size) ∧
    x.data.length ≤ 9223372036854775807 ∧ x.entries.length ≤ 9223372036854775807
theorem AIn.keep {w w' : World} {x : ArgsV} {A : Array Value} (h : AIn w x A) (hm : Mods (fun _ => False) w w') : AIn w' x A := by
  obtain ⟨ao, cap, h1, h2, h3, h4⟩ := h.got
  exact ⟨ao, cap, h1, h2.keep hm fun _ _ h => h, fun k hk => Nat.lt_of_lt_of_le (h3 k hk) hm.size, h4⟩
theorem RIn.keep {w w' : World} {x : ResV} {A : Array Value} (h : RIn w x A) (hm : Mods (fun _ => False) w w') : RIn w' x A := by
  obtain ⟨ao, cap, eo, ec, h1, h2, h3, h4, h5, h6⟩ := h.got
  exact ⟨ao, cap, eo, ec, h1, h2.keep hm fun _ _ h => h, fun k hk => Nat.lt_of_lt_of_le (h3 k hk) hm.size, h4.keep hm fun _ _ h => h, fun k hk => Nat.lt_of_lt_of_le (h5 k hk) hm.size, h6⟩
theorem AIn.size {w : World} {x : ArgsV} {A : Array Value} (h : AIn w x A) : A.size = 36 := by
  obtain ⟨ao, cap, rfl, _⟩ := h.got; rfl
theorem RIn.size {w : World} {x : ResV} {A : Array Value} (h : RIn w x A) : A.size = 88 := by
  obtain ⟨ao, cap, eo, ec, rfl, _⟩ := h.got; rfl

section
variable {w : World} {x y : ArgsV} {A B : Array Value} {r s : ResV} {R S : Array Value}
abbrev Ans (w : World) (b : Bool) (e : Ending) (w' : World) : Prop := e = .returned (.bool b) ∧ Mods (fun _ => False) w w'
theorem nfsxSameArgs_in (h : AIn w x A) (g : AIn w y B) : Calls Try.prog 15 #[.agg A, .agg B] w (Ans w (eqb x y)) := by
  obtain ⟨ao, cap, rfl, h2, _, h4⟩ := h.got
  obtain ⟨bo, bap, rfl, g2, _, g4⟩ := g.got
  exact nfsxSameArgs_any x y _ _ _ _ w h2 g2 h4 g4
theorem refSameArgs_in (h : AIn w x A) (g : AIn w y B) : Calls Try.prog 14 #[.agg A, .agg B] w (Ans w (eqb x y)) := by
  obtain ⟨ao, cap, rfl, h2, _, h4⟩ := h.got
  obtain ⟨bo, bap, rfl, g2, _, g4⟩ := g.got
  exact refSameArgs_any x y _ _ _ _ w h2 g2
theorem nfsxSameRes_in (h : RIn w r R) (g : RIn w s S) : Calls Try.prog 16 #[.agg R, .agg S] w (Ans w (eqb r s)) := by
  obtain ⟨ao, cap, eo, ec, rfl, h2, _, h3, _, h4, h5⟩ := h.got
  obtain ⟨bo, bap, fo, fc, rfl, g2, _, g3, _, g4, g5⟩ := g.got
  exact nfsxSameRes_any r s _ _ _ _ w h2 g2 _ _ _ _ h3 g3 h4 g4 h5 g5
theorem refSameRes_in (h : RIn w r R) (g : RIn w s S) : Calls Try.prog 17 #[.agg R, .agg S] w (Ans w (eqb r s)) := by
  obtain ⟨ao, cap, eo, ec, rfl, h2, _, h3, _, h4, h5⟩ := h.got
  obtain ⟨bo, bap, fo, fc, rfl, g2, _, g3, _, g4, g5⟩ := g.got
  exact refSameRes_any r s _ _ _ _ w h2 g2 _ _ _ _ h3 g3 h5 g5
end

set_option maxRecDepth 100000 in
set_option maxHeartbeats 2000000 in
theorem same_any (w : World) (x y : ArgsV) (A B : Array Value) (r s : ResV) (R S : Array Value) (hx : AIn w x A) (hy : AIn w y B) (hr : RIn w r R) (hs : RIn w s S) :
    Calls Try.prog 4 #[.agg A, .agg B, .agg R, .agg S] w (Ans w true) := by
  have HX := hid hx; have HY := hid hy; have HR := hid hr; have HS := hid hs; clear hx hy hr hs
  go_enter Try.func4, Try.ntmps4
  go_wp2_with fail
  have hA0 : ((((w.alloc (.cells A 30)).alloc (.cells B 30)).alloc (.cells R 42)).alloc (.cells S 42)).rangeAt w.heap.size 0 A.toList :=
    rangeAt_keep (by have h := rangeAt_new w A.toList 30; simpa using h) ((Mods.alloc (fun _ => False) _ _).trans ((Mods.alloc (fun _ => False) _ _).trans (Mods.alloc (fun _ => False) _ _))) (fun h => h)
  have hB0 : ((((w.alloc (.cells A 30)).alloc (.cells B 30)).alloc (.cells R 42)).alloc (.cells S 42)).rangeAt (w.heap.size + 1) 0 B.toList :=
    rangeAt_keep (by have h := rangeAt_new (w.alloc (.cells A 30)) B.toList 30; simpa using h) ((Mods.alloc (fun _ => False) _ _).trans (Mods.alloc (fun _ => False) _ _)) (fun h => h)
  have hR0 : ((((w.alloc (.cells A 30)).alloc (.cells B 30)).alloc (.cells R 42)).alloc (.cells S 42)).rangeAt (w.heap.size + 1 + 1) 0 R.toList :=
    rangeAt_keep (by have h := rangeAt_new ((w.alloc (.cells A 30)).alloc (.cells B 30)) R.toList 42; simpa using h) (Mods.alloc (fun _ => False) _ _) (fun h => h)
  have hS0 : ((((w.alloc (.cells A 30)).alloc (.cells B 30)).alloc (.cells R 42)).alloc (.cells S 42)).rangeAt (w.heap.size + 1 + 1 + 1) 0 S.toList := by
    have h := rangeAt_new (((w.alloc (.cells A 30)).alloc (.cells B 30)).alloc (.cells R 42)) S.toList 42; simpa using h
  have hm : Mods (fun _ => False) w ((((w.alloc (.cells A 30)).alloc (.cells B 30)).alloc (.cells R 42)).alloc (.cells S 42)) := (Mods.alloc _ _ _).trans ((Mods.alloc _ _ _).trans ((Mods.alloc _ _ _).trans (Mods.alloc _ _ _)))
  generalize (((w.alloc (.cells A 30)).alloc (.cells B 30)).alloc (.cells R 42)).alloc (.cells S 42) = w1 at hA0 hB0 hR0 hS0 hm ⊢
  have LA : ∀ w', Mods (fun _ => False) w1 w' → (Instr.loadAt 30 (.pointer (some ⟨w.heap.size, 0, none⟩))).run Try.prog w' = .ok (.agg A) w' := fun w' h => rangeAt_load (rangeAt_keep hA0 h (fun h => h)) Try.underlying30 rfl (by rw [HX.out.size]; kernel_rfl)
  have LB : ∀ w', Mods (fun _ => False) w1 w' → (Instr.loadAt 30 (.pointer (some ⟨w.heap.size + 1, 0, none⟩))).run Try.prog w' = .ok (.agg B) w' := fun w' h => rangeAt_load (rangeAt_keep hB0 h (fun h => h)) Try.underlying30 rfl (by rw [HY.out.size]; kernel_rfl)
  have LR : ∀ w', Mods (fun _ => False) w1 w' → (Instr.loadAt 42 (.pointer (some ⟨w.heap.size + 1 + 1, 0, none⟩))).run Try.prog w' = .ok (.agg R) w' := fun w' h => rangeAt_load (rangeAt_keep hR0 h (fun h => h)) Try.underlying42 rfl (by rw [HR.out.size]; kernel_rfl)
  have LS : ∀ w', Mods (fun _ => False) w1 w' → (Instr.loadAt 42 (.pointer (some ⟨w.heap.size + 1 + 1 + 1, 0, none⟩))).run Try.prog w' = .ok (.agg S) w' := fun w' h => rangeAt_load (rangeAt_keep hS0 h (fun h => h)) Try.underlying42 rfl (by rw [HS.out.size]; kernel_rfl)
  have KA := fun w' (h : Mods (fun _ => False) w1 w') => HX.out.keep (hm.trans h)
  have KB := fun w' (h : Mods (fun _ => False) w1 w') => HY.out.keep (hm.trans h)
  have KR := fun w' (h : Mods (fun _ => False) w1 w') => HR.out.keep (hm.trans h)
  have KS := fun w' (h : Mods (fun _ => False) w1 w') => HS.out.keep (hm.trans h)
  have HLA := hid LA; have HLB := hid LB; have HLR := hid LR; have HLS := hid LS; have HKA := hid KA; have HKB := hid KB; have HKR := hid KR; have HKS := hid KS
  have HM := hid hm
  clear LA LB LR LS KA KB KR KS hA0 hB0 hR0 hS0 HX HY HR HS hm
  refine wp_region_quietC (fun w' => Mods (fun _ => False) w1 w') (by kernel_rfl) (by kernel_rfl) (Mods.drew _ _) ?_
  refine q_call (f := 8) (args := #[]) (v := .bool true) rfl (fun w' _ => by go_simp) (fun w' h => (known_any w').mono fun e w2 ⟨he, h2⟩ => ⟨he, h.trans h2⟩) ?_
  simp only [Act.put, List.setIfInBounds_toArray, List.set_cons_succ, List.set_cons_zero]
  repeat (go_big_quiet_step (fail))
  refine q_load rfl rfl rfl (fun w' h => HLA.out w' h) ?_
  simp only [Act.put, List.setIfInBounds_toArray, List.set_cons_succ, List.set_cons_zero]
  refine q_load rfl rfl rfl (fun w' h => HLB.out w' h) ?_
  simp only [Act.put, List.setIfInBounds_toArray, List.set_cons_succ, List.set_cons_zero]
  refine q_call (f := 15) (args := #[.agg A, .agg B]) (v := .bool (eqb x y)) rfl (fun w' _ => by go_simp) (fun w' h => (nfsxSameArgs_in (HKA.out w' h) (HKB.out w' h)).mono fun e w2 ⟨he, h2⟩ => ⟨he, h.trans h2⟩) ?_
  simp only [Act.put, List.setIfInBounds_toArray, List.set_cons_succ, List.set_cons_zero]
  refine q_load rfl rfl rfl (fun w' h => HLA.out w' h) ?_
  simp only [Act.put, List.setIfInBounds_toArray, List.set_cons_succ, List.set_cons_zero]
  refine q_load rfl rfl rfl (fun w' h => HLB.out w' h) ?_
  simp only [Act.put, List.setIfInBounds_toArray, List.set_cons_succ, List.set_cons_zero]
  refine q_call (f := 14) (args := #[.agg A, .agg B]) (v := .bool (eqb x y)) rfl (fun w' _ => by go_simp) (fun w' h => (refSameArgs_in (HKA.out w' h) (HKB.out w' h)).mono fun e w2 ⟨he, h2⟩ => ⟨he, h.trans h2⟩) ?_
  simp only [Act.put, List.setIfInBounds_toArray, List.set_cons_succ, List.set_cons_zero]
  refine q_bin (v := .bool true) (u1 := .bool (eqb x y)) (u2 := .bool (eqb x y)) rfl rfl rfl rfl (fun w' _ => by rw [eql_bool w' _ _ (eqb x y) (eqb x y), eqb_self]) ?_
  simp only [Act.put, List.setIfInBounds_toArray, List.set_cons_succ, List.set_cons_zero]
  refine q_val (v := .bool true) rfl (fun w' _ => by go_simp) ?_
  simp only [Act.put, List.setIfInBounds_toArray, List.set_cons_succ, List.set_cons_zero]
  repeat (go_big_quiet_step (fail))
  refine q_load rfl rfl rfl (fun w' h => HLA.out w' h) ?_
  simp only [Act.put, List.setIfInBounds_toArray, List.set_cons_succ, List.set_cons_zero]
  refine q_load rfl rfl rfl (fun w' h => HLA.out w' h) ?_
  simp only [Act.put, List.setIfInBounds_toArray, List.set_cons_succ, List.set_cons_zero]
  refine q_call (f := 15) (args := #[.agg A, .agg A]) (v := .bool true) rfl (fun w' _ => by go_simp) (fun w' h => (nfsxSameArgs_in (HKA.out w' h) (HKA.out w' h)).mono fun e w2 ⟨he, h2⟩ => ⟨by rw [he, eqb_self], h.trans h2⟩) ?_
  simp only [Act.put, List.setIfInBounds_toArray, List.set_cons_succ, List.set_cons_zero]
  refine q_val (v := .bool true) rfl (fun w' _ => by go_simp) ?_
  simp only [Act.put, List.setIfInBounds_toArray, List.set_cons_succ, List.set_cons_zero]
  repeat (go_big_quiet_step (fail))
  refine q_load rfl rfl rfl (fun w' h => HLR.out w' h) ?_
  simp only [Act.put, List.setIfInBounds_toArray, List.set_cons_succ, List.set_cons_zero]
  refine q_load rfl rfl rfl (fun w' h => HLS.out w' h) ?_
  simp only [Act.put, List.setIfInBounds_toArray, List.set_cons_succ, List.set_cons_zero]
  refine q_call (f := 16) (args := #[.agg R, .agg S]) (v := .bool (eqb r s)) rfl (fun w' _ => by go_simp) (fun w' h => (nfsxSameRes_in (HKR.out w' h) (HKS.out w' h)).mono fun e w2 ⟨he, h2⟩ => ⟨he, h.trans h2⟩) ?_
  simp only [Act.put, List.setIfInBounds_toArray, List.set_cons_succ, List.set_cons_zero]
  refine q_load rfl rfl rfl (fun w' h => HLR.out w' h) ?_
  simp only [Act.put, List.setIfInBounds_toArray, List.set_cons_succ, List.set_cons_zero]
  refine q_load rfl rfl rfl (fun w' h => HLS.out w' h) ?_
  simp only [Act.put, List.setIfInBounds_toArray, List.set_cons_succ, List.set_cons_zero]
  refine q_call (f := 17) (args := #[.agg R, .agg S]) (v := .bool (eqb r s)) rfl (fun w' _ => by go_simp) (fun w' h => (refSameRes_in (HKR.out w' h) (HKS.out w' h)).mono fun e w2 ⟨he, h2⟩ => ⟨he, h.trans h2⟩) ?_
  simp only [Act.put, List.setIfInBounds_toArray, List.set_cons_succ, List.set_cons_zero]
  refine q_bin (v := .bool true) (u1 := .bool (eqb r s)) (u2 := .bool (eqb r s)) rfl rfl rfl rfl (fun w' _ => by rw [eql_bool w' _ _ (eqb r s) (eqb r s), eqb_self]) ?_
  simp only [Act.put, List.setIfInBounds_toArray, List.set_cons_succ, List.set_cons_zero]
  refine q_val (v := .bool true) rfl (fun w' _ => by go_simp) ?_
  simp only [Act.put, List.setIfInBounds_toArray, List.set_cons_succ, List.set_cons_zero]
  repeat (go_big_quiet_step (fail))
  refine q_load rfl rfl rfl (fun w' h => HLS.out w' h) ?_
  simp only [Act.put, List.setIfInBounds_toArray, List.set_cons_succ, List.set_cons_zero]
  refine q_load rfl rfl rfl (fun w' h => HLS.out w' h) ?_
  simp only [Act.put, List.setIfInBounds_toArray, List.set_cons_succ, List.set_cons_zero]
  refine q_call (f := 16) (args := #[.agg S, .agg S]) (v := .bool true) rfl (fun w' _ => by go_simp) (fun w' h => (nfsxSameRes_in (HKS.out w' h) (HKS.out w' h)).mono fun e w2 ⟨he, h2⟩ => ⟨by rw [he, eqb_self], h.trans h2⟩) ?_
  simp only [Act.put, List.setIfInBounds_toArray, List.set_cons_succ, List.set_cons_zero]
  refine q_val (v := .bool true) rfl (fun w' _ => by go_simp) ?_
  simp only [Act.put, List.setIfInBounds_toArray, List.set_cons_succ, List.set_cons_zero]
  repeat (go_big_quiet_step (fail))
  refine wpQuiet_nil ?_
  intro w' hw'
  have HM2 := hid (HM.out.trans hw')
  clear hw' HLA HLB HLR HLS HKA HKB HKR HKS
  go_wp2
  go_ret
  exact ⟨rfl, HM2.out⟩

end Go.Proofs.Ytanknjpcgceccaa
