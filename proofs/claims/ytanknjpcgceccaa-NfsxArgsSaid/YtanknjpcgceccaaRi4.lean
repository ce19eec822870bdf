/- The reference's In: more. (Printed by wip/tools/gen_ri4.py.) -/
import Derived.Test.YtanknjpcgceccaaRi3
import Derived.Test.YtanknjpcgceccaaReg7
namespace Go.Proofs.Ytanknjpcgceccaa
open Go.RowKit

theorem wpList_storeO {P : Program} {ops : Array Oper} {Q : Exit → Act → World → Prop} {rest : List Oper} {a : Act} {w : World} {o : Oper} {ty : TypeId} {x y : Operand} {b off : Nat} {l : List Value} (hw : Region.wanted o (yielded ops a.tmps) = true) (ho : o.op = .store ty x y) (hd : o.dst = none)
    (hx : a.eval x = .pointer (some ⟨b, off, none⟩)) (hy : a.eval y = .agg l.toArray) (ht : w.there b off l.length) (hi : (P.info? ty).map (·.size) = some l.length) (h1 : l.toArray.all (·.oneCell') = true)
    (h : wpList P ops Q rest a (w.setCells b off l)) : wpList P ops Q (o :: rest) a w := by
  unfold wpList
  rw [if_pos hw]
  refine .inl ?_
  unfold Oper.wp
  have hrun : (execOp a.eval o).run P w = .ok .skip (w.setCells b off l) := by
    simp only [execOp, ho, hx, hy, Sem.run_bind, run_storeAt_mid w b off ty l.toArray (by simpa using ht) (by simpa using hi) h1]
    rfl
  rw [hrun, Oper.upon_skip, hd]
  exact h

section
variable {lay : List Ty} {x : X}
theorem Typed.okk (h : Typed lay x.2) : Ok lay x.1.size x := ⟨h, Nat.le_refl _⟩
theorem Typed.tTruth (h : Typed lay x.2) {o : Nat} (ho : lay[o]? = .some .bool) : Typed lay (pTruth o x).2 := (h.okk.truth ho).ty
theorem Typed.tNumber (h : Typed lay x.2) {o : Nat} {lo hi : Int} (ho : lay[o]? = .some .int) : Typed lay (pNumber lo hi o x).2 := (h.okk.number ho).ty
theorem Typed.tU32 (h : Typed lay x.2) {o : Nat} (ho : lay[o]? = .some .u32) : Typed lay (num1 4 .u32 o x).2 := (h.okk.num1 ho).ty
theorem Typed.tU64 (h : Typed lay x.2) {o : Nat} (ho : lay[o]? = .some .u64) : Typed lay (num1 8 .u64 o x).2 := (h.okk.num8 ho).ty
theorem Typed.tText (h : Typed lay x.2) {o : Nat} {m : Int} (hm : 0 ≤ m ∧ m ≤ 100000) (ho : lay[o]? = .some .str) : Typed lay (pText m o x).2 := (h.okk.text hm ho).ty
theorem Typed.tTime (h : Typed lay x.2) {o : Nat} (h0 : lay[o]? = .some .u32) (h1 : lay[o + 1]? = .some .u32) : Typed lay (pTime o x).2 := (h.okk.time h0 h1).ty
theorem Typed.tSet {dv : Value} (h : Typed (argLay dv) x.2) : Typed (argLay dv) (pSet 5 x).2 := h.okk.set.ty
end

/-- The cells of a Sattr are noughts. -/
def Zs (A : Cells) : Prop := ∀ j, j < 14 → A (5 + j) = zS j
theorem Zs.upd {A : Cells} (h : Zs A) {o : Nat} (v : Value) (ho : o < 5 ∨ 19 ≤ o) : Zs (upd A o v) := fun j hj => (upd_ne _ _ (by omega)).trans (h j hj)
theorem pSet_zero {x : X} (hz : Zs x.2) : pSet 5 x = ((pSet 0 (x.1, zS)).1, put x.2 (pSet 0 (x.1, zS)).2 5 14) :=
  put_eq (Sh.set ⟨rfl, hz⟩) (Fr.set (Fr.refl _ _ _))

/-- What is behind 'x.Set = r.set()'. -/
def XSet (w : World) (c r : Nat) (ao : Option Addr) (cap : Nat) (inp : List UInt8) (g : Nat) (x' : X) (e : Ending) (w1 : World) : Prop :=
  ∃ l : List Value, e = .returned (.agg l.toArray) ∧ Hid (l.length = 14) ∧ Hid (IX (w1.setCells g 5 l) c r ao cap inp g x') ∧ Hid (Mods (FG c r g) w (w1.setCells g 5 l)) ∧ Hid (w1.there g 5 14) ∧ Hid (l.toArray.all (·.oneCell') = true)
theorem IX.set {w : World} {c r : Nat} {ao : Option Addr} {cap : Nat} {inp : List UInt8} {g : Nat} {x : X} (h : IX w c r ao cap inp g x) (hz : Zs x.2) :
    Calls Try.prog 27 #[.pointer (some ⟨c, 0, none⟩)] w (XSet w c r ao cap inp g (pSet 5 x)) := by
  refine (set_in c r ao cap inp x.1 w h.it).mono ?_
  rintro e w1 ⟨⟨he, q1, q2⟩, q3⟩
  have h1 := h.read q1.out q2.out
  have hA : ∀ j, j < 14 → (x.2 (5 + j)).isSome = true := fun j hj => by
    rw [hz j hj]
    obtain ⟨t, t1, t2, _⟩ := satLay_plain j hj
    exact zS_typed.isSome t1 t2
  have hB : ∀ j, j < 14 → ((pSet 0 (x.1, zS)).2 j).isSome = true := fun j hj => by
    obtain ⟨t, t1, t2, _⟩ := satLay_plain j hj
    exact q3.out.isSome t1 t2
  refine ⟨_, he, segC_length _ _, ?_, (FI.fg q2.out g).trans (Mods.setCells _ (.inr rfl)), h1.bl.there hA, segC_one q3.out satLay_plain⟩
  rw [pSet_zero hz]
  exact h1.puts (o := 5) (n := 14) hA hB

/-- 'x.Data = r.R.Bytes(most)' -/
theorem IX.bytes {w : World} {c r : Nat} {ao : Option Addr} {cap : Nat} {inp : List UInt8} {g : Nat} {x : X} (h : IX w c r ao cap inp g x) {o : Nat} {z : Value} (hz : x.2 o = some z) (most : Int) (hm : -9223372036854775808 ≤ most ∧ most ≤ 9223372036854775807) :
    Calls Try.prog 33 #[.pointer (some ⟨r, 0, none⟩), .int .i64 most] w (fun e w1 => ∃ xo xc, XS w c r ao cap inp g o (.slice xo (x.1.row most []).1.length xc) (.slice xo (x.1.row most []).1.length xc) ((x.1.row most []).2, upd x.2 o (.slice xo (x.1.row most []).1.length xc)) e w1 ∧
      Hid (SlB (w1.setCell ⟨g, o, none⟩ (.slice xo (x.1.row most []).1.length xc)) xo xc (x.1.row most []).1) ∧ Hid (∀ k, rb xo (x.1.row most []).1.length k → w.heap.size ≤ k ∧ k < w1.heap.size)) := by
  have hlt := h.bl.lt
  refine (h.it.bytes [] most hm).mono ?_
  rintro e w1 ⟨xo, xc, q, q2, q3⟩
  refine ⟨xo, xc, h.xs hz q, ?_, fun k hk => q3.out k hk.2⟩
  exact q2.out.keep (Mods.setCell (F := fun k => k = g) (a := ⟨g, o, none⟩) rfl _) fun k hk e => by
    have := (q3.out k hk.2).1
    omega

/-- What stands behind the handle and the name, of the others. -/
def iMore : Int → X → X := fun p x =>
  if p = 8 then pNamed 8 x else if p = 9 then pNamed 9 x else if p = 10 then pNamed 10 x else if p = 11 then pNamed 11 x
  else if p = 14 then pText 255 3 (pText 64 1 x) else if p = 15 then pText 255 3 (pText 64 1 x)
  else if p = 16 then num1 4 .u32 24 (nums 8 .u64 [30, 31] x) else if p = 17 then nums 4 .u32 [32, 33] (nums 8 .u64 [30, 31] x) else x

set_option maxRecDepth 100000 in
set_option maxHeartbeats 4000000 in
theorem more_in_8 (c r : Nat) (ao : Option Addr) (cap : Nat) (inp : List UInt8) (g : Nat) (x : X) (dv : Value) (w0 : World) (h : IX w0 c r ao cap inp g x) (hk : Typed (argLay dv) x.2) (hz : Zs x.2) :
    Calls Try.prog 34 #[.pointer (some ⟨c, 0, none⟩), .int .i64 8, .pointer (some ⟨g, 0, none⟩)] w0 (fun e w' => XQ w0 c r ao cap inp g (iMore 8 x) e w' ∧ Hid (Typed (argLay dv) (iMore 8 x).2)) := by
  obtain ⟨y0, e0⟩ : ∃ z, z = x := ⟨_, rfl⟩
  rw [← e0] at h hk hz ⊢
  have A0 : Hid (IX w0 c r ao cap inp g y0) := h
  have K0 : Hid (Typed (argLay dv) y0.2) := hk
  have Z0 : Hid (Zs y0.2) := hz
  have M0 : Hid (Mods (FG c r g) w0 w0) := Mods.refl _ _
  clear e0 h hk hz
  go_enter Try.func34, Try.ntmps34
  obtain ⟨y1, e1⟩ : ∃ z, z = pNumber 0 2 26 y0 := ⟨_, rfl⟩
  have K1 : Hid (Typed (argLay dv) y1.2) := by show Typed _ _; rw [e1]; exact K0.out.tNumber rfl
  have E1 := hid e1; clear e1
  have D := hid (A0.out.upto K0.out (o := 26) rfl 0 2)
  rw [← E1.out] at D
  go_wp2_with fail
  refine D.out.mono ?_
  rintro e wa ⟨rfl, A1, m, ⟨u, hu⟩, hf⟩
  clear D
  go_upto_region 3 with fail
  generalize World.setCell wa _ _ = w1 at A1 m ⊢
  clear hu hf
  have M1 := hid (M0.out.trans m.out); clear m
  obtain ⟨m1, hm1⟩ : ∃ m, m = iv (y1.2 26) := ⟨_, rfl⟩
  have hc0 : w1.cell? ⟨g, 26, none⟩ = some (.int .i64 m1) := by rw [hm1]; exact (A1.out.bl.cell 26).trans (K1.out 26 _ rfl).iv
  have Z1 : Hid (Zs y1.2) := by show Zs _; rw [E1.out]; exact Z0.out.upd _ (by omega)
  have HM1 := hid hm1; clear hm1
  by_cases hbb : m1 = 2
  · have hb2 : (m1 == 2) = true := by simpa using hbb
    have HBB := hid hbb; clear hbb
    go_upto_region 4 with fail
    clear hc0 hb2
    obtain ⟨y2, e2⟩ : ∃ z, z = num1 8 .u64 29 y1 := ⟨_, rfl⟩
    have K2 : Hid (Typed (argLay dv) y2.2) := by show Typed _ _; rw [e2]; exact K1.out.tU64 rfl
    have E2 := hid e2; clear e2
    have D := hid (A1.out.u64 K1.out (o := 29) rfl)
    rw [← E2.out] at D
    have hc := A1.out.it.c0
    go_wp2_with fail
    refine D.out.mono ?_
    rintro e wa ⟨rfl, A2, m, ⟨u, hu⟩, hf⟩
    clear D hc
    have M2 := hid (M1.out.trans m.out); clear m
    go_wp2
    go_end0
    have hend : iMore 8 y0 = y2 := by
      show iMore 8 y0 = _
      rw [E2.out, E1.out]
      simp only [iMore, pNamed]
      show (if iv ((pNumber 0 2 26 y0).2 26) = 2 then _ else _) = _; rw [← E1.out, ← HM1.out, if_pos HBB.out]
    rw [hend]
    exact ⟨⟨rfl, A2, M2⟩, K2⟩
  · have hb2 : (m1 == 2) = false := by simpa using hbb
    have HBB := hid hbb; clear hbb
    go_upto_region 5 with fail
    clear hc0 hb2
    obtain ⟨y2, e2⟩ : ∃ z, z = pSet 5 y1 := ⟨_, rfl⟩
    have K2 : Hid (Typed (argLay dv) y2.2) := by show Typed _ _; rw [e2]; exact K1.out.tSet
    have E2 := hid e2; clear e2
    have D := hid (A1.out.set Z1.out)
    rw [← E2.out] at D
    go_upto_region 5 with fail
    refine wp_region_list (wpList_val (v := .pointer (some ⟨g, 0, none⟩)) rfl rfl ?_)
    simp only [Act.put, List.setIfInBounds_toArray, List.set_cons_succ, List.set_cons_zero]
    refine wpList_val (v := .pointer (some ⟨c, 0, none⟩)) rfl rfl ?_
    simp only [Act.put, List.setIfInBounds_toArray, List.set_cons_succ, List.set_cons_zero]
    refine wpl_call (f := 27) (args := #[.pointer (some ⟨c, 0, none⟩)]) (R := fun v w' => XSet _ c r ao cap inp g y2 (.returned v) w') rfl (by go_simp) (D.out.mono fun e w' h => by obtain ⟨l, he, h2⟩ := h; exact ⟨_, he, l, rfl, h2⟩) ?_
    rintro v wa ⟨l, hl, HL, A2, m, HT, H1⟩
    obtain rfl : v = .agg l.toArray := by injection hl
    clear D hl
    simp only [Act.put, List.setIfInBounds_toArray, List.set_cons_succ, List.set_cons_zero]
    refine wpList_val (v := .pointer (some ⟨g, 0, none⟩)) rfl (by go_simp) ?_
    simp only [Act.put, List.setIfInBounds_toArray, List.set_cons_succ, List.set_cons_zero]
    refine wpList_val (v := .pointer (some ⟨g, 5, none⟩)) rfl (by go_simp) ?_
    simp only [Act.put, List.setIfInBounds_toArray, List.set_cons_succ, List.set_cons_zero]
    refine wpList_storeO (b := g) (off := 5) (l := l) rfl rfl rfl rfl rfl (by rw [HL.out]; exact HT.out) (by rw [HL.out]; kernel_rfl) H1.out ?_
    generalize World.setCells wa _ _ _ = w2 at A2 m ⊢
    have M2 := hid (M1.out.trans m.out); clear m HT H1
    go_wp2
    go_end0
    have hend : iMore 8 y0 = y2 := by
      show iMore 8 y0 = _
      rw [E2.out, E1.out]
      simp only [iMore, pNamed]
      show (if iv ((pNumber 0 2 26 y0).2 26) = 2 then _ else _) = _; rw [← E1.out, ← HM1.out, if_neg HBB.out]
    rw [hend]
    exact ⟨⟨rfl, A2, M2⟩, K2⟩

set_option maxRecDepth 100000 in
set_option maxHeartbeats 4000000 in
theorem more_in_9 (c r : Nat) (ao : Option Addr) (cap : Nat) (inp : List UInt8) (g : Nat) (x : X) (dv : Value) (w0 : World) (h : IX w0 c r ao cap inp g x) (hk : Typed (argLay dv) x.2) (hz : Zs x.2) :
    Calls Try.prog 34 #[.pointer (some ⟨c, 0, none⟩), .int .i64 9, .pointer (some ⟨g, 0, none⟩)] w0 (fun e w' => XQ w0 c r ao cap inp g (iMore 9 x) e w' ∧ Hid (Typed (argLay dv) (iMore 9 x).2)) := by
  obtain ⟨y0, e0⟩ : ∃ z, z = x := ⟨_, rfl⟩
  rw [← e0] at h hk hz ⊢
  have A0 : Hid (IX w0 c r ao cap inp g y0) := h
  have K0 : Hid (Typed (argLay dv) y0.2) := hk
  have Z0 : Hid (Zs y0.2) := hz
  have M0 : Hid (Mods (FG c r g) w0 w0) := Mods.refl _ _
  clear e0 h hk hz
  go_enter Try.func34, Try.ntmps34
  obtain ⟨y1, e1⟩ : ∃ z, z = pSet 5 y0 := ⟨_, rfl⟩
  have K1 : Hid (Typed (argLay dv) y1.2) := by show Typed _ _; rw [e1]; exact K0.out.tSet
  have E1 := hid e1; clear e1
  have D := hid (A0.out.set Z0.out)
  rw [← E1.out] at D
  go_upto_region 7 with fail
  refine wp_region_list (wpList_val (v := .pointer (some ⟨g, 0, none⟩)) rfl rfl ?_)
  simp only [Act.put, List.setIfInBounds_toArray, List.set_cons_succ, List.set_cons_zero]
  refine wpList_val (v := .pointer (some ⟨c, 0, none⟩)) rfl rfl ?_
  simp only [Act.put, List.setIfInBounds_toArray, List.set_cons_succ, List.set_cons_zero]
  refine wpl_call (f := 27) (args := #[.pointer (some ⟨c, 0, none⟩)]) (R := fun v w' => XSet _ c r ao cap inp g y1 (.returned v) w') rfl (by go_simp) (D.out.mono fun e w' h => by obtain ⟨l, he, h2⟩ := h; exact ⟨_, he, l, rfl, h2⟩) ?_
  rintro v wa ⟨l, hl, HL, A1, m, HT, H1⟩
  obtain rfl : v = .agg l.toArray := by injection hl
  clear D hl
  simp only [Act.put, List.setIfInBounds_toArray, List.set_cons_succ, List.set_cons_zero]
  refine wpList_val (v := .pointer (some ⟨g, 0, none⟩)) rfl (by go_simp) ?_
  simp only [Act.put, List.setIfInBounds_toArray, List.set_cons_succ, List.set_cons_zero]
  refine wpList_val (v := .pointer (some ⟨g, 5, none⟩)) rfl (by go_simp) ?_
  simp only [Act.put, List.setIfInBounds_toArray, List.set_cons_succ, List.set_cons_zero]
  refine wpList_storeO (b := g) (off := 5) (l := l) rfl rfl rfl rfl rfl (by rw [HL.out]; exact HT.out) (by rw [HL.out]; kernel_rfl) H1.out ?_
  generalize World.setCells wa _ _ _ = w1 at A1 m ⊢
  have M1 := hid (M0.out.trans m.out); clear m HT H1
  go_wp2
  go_end0
  have hend : iMore 9 y0 = y1 := by
    show iMore 9 y0 = _
    rw [E1.out]
    simp only [iMore, pNamed]
    try rfl
  rw [hend]
  exact ⟨⟨rfl, A1, M1⟩, K1⟩

set_option maxRecDepth 100000 in
set_option maxHeartbeats 4000000 in
theorem more_in_10 (c r : Nat) (ao : Option Addr) (cap : Nat) (inp : List UInt8) (g : Nat) (x : X) (dv : Value) (w0 : World) (h : IX w0 c r ao cap inp g x) (hk : Typed (argLay dv) x.2) (hz : Zs x.2) :
    Calls Try.prog 34 #[.pointer (some ⟨c, 0, none⟩), .int .i64 10, .pointer (some ⟨g, 0, none⟩)] w0 (fun e w' => XQ w0 c r ao cap inp g (iMore 10 x) e w' ∧ Hid (Typed (argLay dv) (iMore 10 x).2)) := by
  obtain ⟨y0, e0⟩ : ∃ z, z = x := ⟨_, rfl⟩
  rw [← e0] at h hk hz ⊢
  have A0 : Hid (IX w0 c r ao cap inp g y0) := h
  have K0 : Hid (Typed (argLay dv) y0.2) := hk
  have Z0 : Hid (Zs y0.2) := hz
  have M0 : Hid (Mods (FG c r g) w0 w0) := Mods.refl _ _
  clear e0 h hk hz
  go_enter Try.func34, Try.ntmps34
  obtain ⟨y1, e1⟩ : ∃ z, z = pSet 5 y0 := ⟨_, rfl⟩
  have K1 : Hid (Typed (argLay dv) y1.2) := by show Typed _ _; rw [e1]; exact K0.out.tSet
  have E1 := hid e1; clear e1
  have D := hid (A0.out.set Z0.out)
  rw [← E1.out] at D
  go_upto_region 9 with fail
  refine wp_region_list (wpList_val (v := .pointer (some ⟨g, 0, none⟩)) rfl rfl ?_)
  simp only [Act.put, List.setIfInBounds_toArray, List.set_cons_succ, List.set_cons_zero]
  refine wpList_val (v := .pointer (some ⟨c, 0, none⟩)) rfl rfl ?_
  simp only [Act.put, List.setIfInBounds_toArray, List.set_cons_succ, List.set_cons_zero]
  refine wpl_call (f := 27) (args := #[.pointer (some ⟨c, 0, none⟩)]) (R := fun v w' => XSet _ c r ao cap inp g y1 (.returned v) w') rfl (by go_simp) (D.out.mono fun e w' h => by obtain ⟨l, he, h2⟩ := h; exact ⟨_, he, l, rfl, h2⟩) ?_
  rintro v wa ⟨l, hl, HL, A1, m, HT, H1⟩
  obtain rfl : v = .agg l.toArray := by injection hl
  clear D hl
  simp only [Act.put, List.setIfInBounds_toArray, List.set_cons_succ, List.set_cons_zero]
  refine wpList_val (v := .pointer (some ⟨g, 0, none⟩)) rfl (by go_simp) ?_
  simp only [Act.put, List.setIfInBounds_toArray, List.set_cons_succ, List.set_cons_zero]
  refine wpList_val (v := .pointer (some ⟨g, 5, none⟩)) rfl (by go_simp) ?_
  simp only [Act.put, List.setIfInBounds_toArray, List.set_cons_succ, List.set_cons_zero]
  refine wpList_storeO (b := g) (off := 5) (l := l) rfl rfl rfl rfl rfl (by rw [HL.out]; exact HT.out) (by rw [HL.out]; kernel_rfl) H1.out ?_
  generalize World.setCells wa _ _ _ = w1 at A1 m ⊢
  have M1 := hid (M0.out.trans m.out); clear m HT H1
  obtain ⟨y2, e2⟩ : ∃ z, z = pText 1024 4 y1 := ⟨_, rfl⟩
  have K2 : Hid (Typed (argLay dv) y2.2) := by show Typed _ _; rw [e2]; exact K1.out.tText (by decide) rfl
  have E2 := hid e2; clear e2
  have D := hid (A1.out.text K1.out (o := 4) rfl 1024 (by decide))
  rw [← E2.out] at D
  go_wp2_with fail
  refine D.out.mono ?_
  rintro e wa ⟨rfl, A2, m, ⟨u, hu⟩, hf⟩
  clear D
  have M2 := hid (M1.out.trans m.out); clear m
  go_wp2
  go_end0
  have hend : iMore 10 y0 = y2 := by
    show iMore 10 y0 = _
    rw [E2.out, E1.out]
    simp only [iMore, pNamed]
    try rfl
  rw [hend]
  exact ⟨⟨rfl, A2, M2⟩, K2⟩

set_option maxRecDepth 100000 in
set_option maxHeartbeats 4000000 in
theorem more_in_11 (c r : Nat) (ao : Option Addr) (cap : Nat) (inp : List UInt8) (g : Nat) (x : X) (dv : Value) (w0 : World) (h : IX w0 c r ao cap inp g x) (hk : Typed (argLay dv) x.2) (hz : Zs x.2) :
    Calls Try.prog 34 #[.pointer (some ⟨c, 0, none⟩), .int .i64 11, .pointer (some ⟨g, 0, none⟩)] w0 (fun e w' => XQ w0 c r ao cap inp g (iMore 11 x) e w' ∧ Hid (Typed (argLay dv) (iMore 11 x).2)) := by
  obtain ⟨y0, e0⟩ : ∃ z, z = x := ⟨_, rfl⟩
  rw [← e0] at h hk hz ⊢
  have A0 : Hid (IX w0 c r ao cap inp g y0) := h
  have K0 : Hid (Typed (argLay dv) y0.2) := hk
  have Z0 : Hid (Zs y0.2) := hz
  have M0 : Hid (Mods (FG c r g) w0 w0) := Mods.refl _ _
  clear e0 h hk hz
  go_enter Try.func34, Try.ntmps34
  obtain ⟨y1, e1⟩ : ∃ z, z = pNumber 1 7 27 y0 := ⟨_, rfl⟩
  have K1 : Hid (Typed (argLay dv) y1.2) := by show Typed _ _; rw [e1]; exact K0.out.tNumber rfl
  have E1 := hid e1; clear e1
  have D := hid (A0.out.upto K0.out (o := 27) rfl 1 7)
  rw [← E1.out] at D
  go_wp2_with fail
  refine D.out.mono ?_
  rintro e wa ⟨rfl, A1, m, ⟨u, hu⟩, hf⟩
  clear D
  go_upto_region 13 with fail
  generalize World.setCell wa _ _ = w1 at A1 m ⊢
  clear hu hf
  have M1 := hid (M0.out.trans m.out); clear m
  obtain ⟨m1, hm1⟩ : ∃ m, m = iv (y1.2 27) := ⟨_, rfl⟩
  have hc0 : w1.cell? ⟨g, 27, none⟩ = some (.int .i64 m1) := by rw [hm1]; exact (A1.out.bl.cell 27).trans (K1.out 27 _ rfl).iv
  have Z1 : Hid (Zs y1.2) := by show Zs _; rw [E1.out]; exact Z0.out.upd _ (by omega)
  have HM1 := hid hm1; clear hm1
  by_cases h3 : m1 = 3
  · have HT : Hid (m1 = 3) := h3
    rw [h3] at hc0
    clear h3 
    go_upto_region 14 with fail
    clear hc0
    obtain ⟨y2, e2⟩ : ∃ z, z = pSet 5 y1 := ⟨_, rfl⟩
    have K2 : Hid (Typed (argLay dv) y2.2) := by show Typed _ _; rw [e2]; exact K1.out.tSet
    have E2 := hid e2; clear e2
    have D := hid (A1.out.set Z1.out)
    rw [← E2.out] at D
    go_upto_region 14 with fail
    refine wp_region_list (wpList_val (v := .pointer (some ⟨g, 0, none⟩)) rfl rfl ?_)
    simp only [Act.put, List.setIfInBounds_toArray, List.set_cons_succ, List.set_cons_zero]
    refine wpList_val (v := .pointer (some ⟨c, 0, none⟩)) rfl rfl ?_
    simp only [Act.put, List.setIfInBounds_toArray, List.set_cons_succ, List.set_cons_zero]
    refine wpl_call (f := 27) (args := #[.pointer (some ⟨c, 0, none⟩)]) (R := fun v w' => XSet _ c r ao cap inp g y2 (.returned v) w') rfl (by go_simp) (D.out.mono fun e w' h => by obtain ⟨l, he, h2⟩ := h; exact ⟨_, he, l, rfl, h2⟩) ?_
    rintro v wa ⟨l, hl, HL, A2, m, HT, H1⟩
    obtain rfl : v = .agg l.toArray := by injection hl
    clear D hl
    simp only [Act.put, List.setIfInBounds_toArray, List.set_cons_succ, List.set_cons_zero]
    refine wpList_val (v := .pointer (some ⟨g, 0, none⟩)) rfl (by go_simp) ?_
    simp only [Act.put, List.setIfInBounds_toArray, List.set_cons_succ, List.set_cons_zero]
    refine wpList_val (v := .pointer (some ⟨g, 5, none⟩)) rfl (by go_simp) ?_
    simp only [Act.put, List.setIfInBounds_toArray, List.set_cons_succ, List.set_cons_zero]
    refine wpList_storeO (b := g) (off := 5) (l := l) rfl rfl rfl rfl rfl (by rw [HL.out]; exact HT.out) (by rw [HL.out]; kernel_rfl) H1.out ?_
    generalize World.setCells wa _ _ _ = w2 at A2 m ⊢
    have M2 := hid (M1.out.trans m.out); clear m HT H1
    have hc9 : w2.cell? ⟨g, 27, none⟩ = some (.int .i64 3) := by
      have h1 := (A2.out.bl.cell 27).trans (K2.out 27 _ rfl).iv
      have h2 : y2.2 27 = y1.2 27 := by rw [E2.out]; exact Fr.set (Fr.refl 5 14 y1) 27 (by omega)
      rw [h1, h2, ← HM1.out, HT.out]
    go_upto_region 16 with fail
    clear hc9
    obtain ⟨y3, e3⟩ : ∃ z, z = num1 4 .u32 34 y2 := ⟨_, rfl⟩
    have K3 : Hid (Typed (argLay dv) y3.2) := by show Typed _ _; rw [e3]; exact K2.out.tU32 rfl
    have E3 := hid e3; clear e3
    have D := hid (A2.out.u32 K2.out (o := 34) rfl)
    rw [← E3.out] at D
    go_wp2_with fail
    refine D.out.mono ?_
    rintro e wa ⟨rfl, A3, m, ⟨u, hu⟩, hf⟩
    clear D
    go_upto_region 17 with fail
    generalize World.setCell wa _ _ = w3 at A3 m ⊢
    clear hu hf
    have M3 := hid (M2.out.trans m.out); clear m
    obtain ⟨y4, e4⟩ : ∃ z, z = num1 4 .u32 35 y3 := ⟨_, rfl⟩
    have K4 : Hid (Typed (argLay dv) y4.2) := by show Typed _ _; rw [e4]; exact K3.out.tU32 rfl
    have E4 := hid e4; clear e4
    have D := hid (A3.out.u32 K3.out (o := 35) rfl)
    rw [← E4.out] at D
    go_wp2_with fail
    refine D.out.mono ?_
    rintro e wa ⟨rfl, A4, m, ⟨u, hu⟩, hf⟩
    clear D
    have M4 := hid (M3.out.trans m.out); clear m
    go_wp2
    go_end0
    have hend : iMore 11 y0 = y4 := by
      show iMore 11 y0 = _
      rw [E4.out, E3.out, E2.out, E1.out]
      simp only [iMore, pNamed]
      show (if iv ((pNumber 1 7 27 y0).2 27) = 3 then _ else _) = _; rw [← E1.out, ← HM1.out]; simp only [HT.out]; rfl
    rw [hend]
    exact ⟨⟨rfl, A4, M4⟩, K4⟩
  · have n3 : (m1 == 3) = false := by simpa using h3
    by_cases h4 : m1 = 4
    · have HT : Hid (m1 = 4) := h4
      rw [h4] at hc0
      clear h4 h3
      go_upto_region 14 with fail
      clear hc0
      obtain ⟨y2, e2⟩ : ∃ z, z = pSet 5 y1 := ⟨_, rfl⟩
      have K2 : Hid (Typed (argLay dv) y2.2) := by show Typed _ _; rw [e2]; exact K1.out.tSet
      have E2 := hid e2; clear e2
      have D := hid (A1.out.set Z1.out)
      rw [← E2.out] at D
      go_upto_region 14 with fail
      refine wp_region_list (wpList_val (v := .pointer (some ⟨g, 0, none⟩)) rfl rfl ?_)
      simp only [Act.put, List.setIfInBounds_toArray, List.set_cons_succ, List.set_cons_zero]
      refine wpList_val (v := .pointer (some ⟨c, 0, none⟩)) rfl rfl ?_
      simp only [Act.put, List.setIfInBounds_toArray, List.set_cons_succ, List.set_cons_zero]
      refine wpl_call (f := 27) (args := #[.pointer (some ⟨c, 0, none⟩)]) (R := fun v w' => XSet _ c r ao cap inp g y2 (.returned v) w') rfl (by go_simp) (D.out.mono fun e w' h => by obtain ⟨l, he, h2⟩ := h; exact ⟨_, he, l, rfl, h2⟩) ?_
      rintro v wa ⟨l, hl, HL, A2, m, HT, H1⟩
      obtain rfl : v = .agg l.toArray := by injection hl
      clear D hl
      simp only [Act.put, List.setIfInBounds_toArray, List.set_cons_succ, List.set_cons_zero]
      refine wpList_val (v := .pointer (some ⟨g, 0, none⟩)) rfl (by go_simp) ?_
      simp only [Act.put, List.setIfInBounds_toArray, List.set_cons_succ, List.set_cons_zero]
      refine wpList_val (v := .pointer (some ⟨g, 5, none⟩)) rfl (by go_simp) ?_
      simp only [Act.put, List.setIfInBounds_toArray, List.set_cons_succ, List.set_cons_zero]
      refine wpList_storeO (b := g) (off := 5) (l := l) rfl rfl rfl rfl rfl (by rw [HL.out]; exact HT.out) (by rw [HL.out]; kernel_rfl) H1.out ?_
      generalize World.setCells wa _ _ _ = w2 at A2 m ⊢
      have M2 := hid (M1.out.trans m.out); clear m HT H1
      have hc9 : w2.cell? ⟨g, 27, none⟩ = some (.int .i64 4) := by
        have h1 := (A2.out.bl.cell 27).trans (K2.out 27 _ rfl).iv
        have h2 : y2.2 27 = y1.2 27 := by rw [E2.out]; exact Fr.set (Fr.refl 5 14 y1) 27 (by omega)
        rw [h1, h2, ← HM1.out, HT.out]
      go_upto_region 16 with fail
      clear hc9
      obtain ⟨y3, e3⟩ : ∃ z, z = num1 4 .u32 34 y2 := ⟨_, rfl⟩
      have K3 : Hid (Typed (argLay dv) y3.2) := by show Typed _ _; rw [e3]; exact K2.out.tU32 rfl
      have E3 := hid e3; clear e3
      have D := hid (A2.out.u32 K2.out (o := 34) rfl)
      rw [← E3.out] at D
      go_wp2_with fail
      refine D.out.mono ?_
      rintro e wa ⟨rfl, A3, m, ⟨u, hu⟩, hf⟩
      clear D
      go_upto_region 17 with fail
      generalize World.setCell wa _ _ = w3 at A3 m ⊢
      clear hu hf
      have M3 := hid (M2.out.trans m.out); clear m
      obtain ⟨y4, e4⟩ : ∃ z, z = num1 4 .u32 35 y3 := ⟨_, rfl⟩
      have K4 : Hid (Typed (argLay dv) y4.2) := by show Typed _ _; rw [e4]; exact K3.out.tU32 rfl
      have E4 := hid e4; clear e4
      have D := hid (A3.out.u32 K3.out (o := 35) rfl)
      rw [← E4.out] at D
      go_wp2_with fail
      refine D.out.mono ?_
      rintro e wa ⟨rfl, A4, m, ⟨u, hu⟩, hf⟩
      clear D
      have M4 := hid (M3.out.trans m.out); clear m
      go_wp2
      go_end0
      have hend : iMore 11 y0 = y4 := by
        show iMore 11 y0 = _
        rw [E4.out, E3.out, E2.out, E1.out]
        simp only [iMore, pNamed]
        show (if iv ((pNumber 1 7 27 y0).2 27) = 3 then _ else _) = _; rw [← E1.out, ← HM1.out]; simp only [HT.out]; rfl
      rw [hend]
      exact ⟨⟨rfl, A4, M4⟩, K4⟩
    · have n4 : (m1 == 4) = false := by simpa using h4
      by_cases h6 : m1 = 6
      · have HT : Hid (m1 = 6) := h6
        rw [h6] at hc0
        clear h6 h3 h4
        go_upto_region 14 with fail
        clear hc0
        obtain ⟨y2, e2⟩ : ∃ z, z = pSet 5 y1 := ⟨_, rfl⟩
        have K2 : Hid (Typed (argLay dv) y2.2) := by show Typed _ _; rw [e2]; exact K1.out.tSet
        have E2 := hid e2; clear e2
        have D := hid (A1.out.set Z1.out)
        rw [← E2.out] at D
        go_upto_region 14 with fail
        refine wp_region_list (wpList_val (v := .pointer (some ⟨g, 0, none⟩)) rfl rfl ?_)
        simp only [Act.put, List.setIfInBounds_toArray, List.set_cons_succ, List.set_cons_zero]
        refine wpList_val (v := .pointer (some ⟨c, 0, none⟩)) rfl rfl ?_
        simp only [Act.put, List.setIfInBounds_toArray, List.set_cons_succ, List.set_cons_zero]
        refine wpl_call (f := 27) (args := #[.pointer (some ⟨c, 0, none⟩)]) (R := fun v w' => XSet _ c r ao cap inp g y2 (.returned v) w') rfl (by go_simp) (D.out.mono fun e w' h => by obtain ⟨l, he, h2⟩ := h; exact ⟨_, he, l, rfl, h2⟩) ?_
        rintro v wa ⟨l, hl, HL, A2, m, HT, H1⟩
        obtain rfl : v = .agg l.toArray := by injection hl
        clear D hl
        simp only [Act.put, List.setIfInBounds_toArray, List.set_cons_succ, List.set_cons_zero]
        refine wpList_val (v := .pointer (some ⟨g, 0, none⟩)) rfl (by go_simp) ?_
        simp only [Act.put, List.setIfInBounds_toArray, List.set_cons_succ, List.set_cons_zero]
        refine wpList_val (v := .pointer (some ⟨g, 5, none⟩)) rfl (by go_simp) ?_
        simp only [Act.put, List.setIfInBounds_toArray, List.set_cons_succ, List.set_cons_zero]
        refine wpList_storeO (b := g) (off := 5) (l := l) rfl rfl rfl rfl rfl (by rw [HL.out]; exact HT.out) (by rw [HL.out]; kernel_rfl) H1.out ?_
        generalize World.setCells wa _ _ _ = w2 at A2 m ⊢
        have M2 := hid (M1.out.trans m.out); clear m HT H1
        have hc9 : w2.cell? ⟨g, 27, none⟩ = some (.int .i64 6) := by
          have h1 := (A2.out.bl.cell 27).trans (K2.out 27 _ rfl).iv
          have h2 : y2.2 27 = y1.2 27 := by rw [E2.out]; exact Fr.set (Fr.refl 5 14 y1) 27 (by omega)
          rw [h1, h2, ← HM1.out, HT.out]
        go_wp2
        go_end0
        have hend : iMore 11 y0 = y2 := by
          show iMore 11 y0 = _
          rw [E2.out, E1.out]
          simp only [iMore, pNamed]
          show (if iv ((pNumber 1 7 27 y0).2 27) = 3 then _ else _) = _; rw [← E1.out, ← HM1.out]; simp only [HT.out]; rfl
        rw [hend]
        exact ⟨⟨rfl, A2, M2⟩, K2⟩
      · have n6 : (m1 == 6) = false := by simpa using h6
        by_cases h7 : m1 = 7
        · have HT : Hid (m1 = 7) := h7
          rw [h7] at hc0
          clear h7 h3 h4 h6
          go_upto_region 14 with fail
          clear hc0
          obtain ⟨y2, e2⟩ : ∃ z, z = pSet 5 y1 := ⟨_, rfl⟩
          have K2 : Hid (Typed (argLay dv) y2.2) := by show Typed _ _; rw [e2]; exact K1.out.tSet
          have E2 := hid e2; clear e2
          have D := hid (A1.out.set Z1.out)
          rw [← E2.out] at D
          go_upto_region 14 with fail
          refine wp_region_list (wpList_val (v := .pointer (some ⟨g, 0, none⟩)) rfl rfl ?_)
          simp only [Act.put, List.setIfInBounds_toArray, List.set_cons_succ, List.set_cons_zero]
          refine wpList_val (v := .pointer (some ⟨c, 0, none⟩)) rfl rfl ?_
          simp only [Act.put, List.setIfInBounds_toArray, List.set_cons_succ, List.set_cons_zero]
          refine wpl_call (f := 27) (args := #[.pointer (some ⟨c, 0, none⟩)]) (R := fun v w' => XSet _ c r ao cap inp g y2 (.returned v) w') rfl (by go_simp) (D.out.mono fun e w' h => by obtain ⟨l, he, h2⟩ := h; exact ⟨_, he, l, rfl, h2⟩) ?_
          rintro v wa ⟨l, hl, HL, A2, m, HT, H1⟩
          obtain rfl : v = .agg l.toArray := by injection hl
          clear D hl
          simp only [Act.put, List.setIfInBounds_toArray, List.set_cons_succ, List.set_cons_zero]
          refine wpList_val (v := .pointer (some ⟨g, 0, none⟩)) rfl (by go_simp) ?_
          simp only [Act.put, List.setIfInBounds_toArray, List.set_cons_succ, List.set_cons_zero]
          refine wpList_val (v := .pointer (some ⟨g, 5, none⟩)) rfl (by go_simp) ?_
          simp only [Act.put, List.setIfInBounds_toArray, List.set_cons_succ, List.set_cons_zero]
          refine wpList_storeO (b := g) (off := 5) (l := l) rfl rfl rfl rfl rfl (by rw [HL.out]; exact HT.out) (by rw [HL.out]; kernel_rfl) H1.out ?_
          generalize World.setCells wa _ _ _ = w2 at A2 m ⊢
          have M2 := hid (M1.out.trans m.out); clear m HT H1
          have hc9 : w2.cell? ⟨g, 27, none⟩ = some (.int .i64 7) := by
            have h1 := (A2.out.bl.cell 27).trans (K2.out 27 _ rfl).iv
            have h2 : y2.2 27 = y1.2 27 := by rw [E2.out]; exact Fr.set (Fr.refl 5 14 y1) 27 (by omega)
            rw [h1, h2, ← HM1.out, HT.out]
          go_wp2
          go_end0
          have hend : iMore 11 y0 = y2 := by
            show iMore 11 y0 = _
            rw [E2.out, E1.out]
            simp only [iMore, pNamed]
            show (if iv ((pNumber 1 7 27 y0).2 27) = 3 then _ else _) = _; rw [← E1.out, ← HM1.out]; simp only [HT.out]; rfl
          rw [hend]
          exact ⟨⟨rfl, A2, M2⟩, K2⟩
        · have n7 : (m1 == 7) = false := by simpa using h7
          have HT := hid (And.intro h3 (And.intro h4 (And.intro h6 h7)))
          clear h3 h4 h6 h7
          go_wp2
          go_end0
          have hend : iMore 11 y0 = y1 := by
            show iMore 11 y0 = _
            rw [E1.out]
            simp only [iMore, pNamed]
            show (if iv ((pNumber 1 7 27 y0).2 27) = 3 then _ else _) = _; rw [← E1.out, ← HM1.out, if_neg HT.out.1, if_neg HT.out.2.1, if_neg HT.out.2.2.1, if_neg HT.out.2.2.2]
          rw [hend]
          exact ⟨⟨rfl, A1, M1⟩, K1⟩

set_option maxRecDepth 100000 in
set_option maxHeartbeats 4000000 in
theorem more_in_14 (c r : Nat) (ao : Option Addr) (cap : Nat) (inp : List UInt8) (g : Nat) (x : X) (dv : Value) (w0 : World) (h : IX w0 c r ao cap inp g x) (hk : Typed (argLay dv) x.2) (hz : Zs x.2) :
    Calls Try.prog 34 #[.pointer (some ⟨c, 0, none⟩), .int .i64 14, .pointer (some ⟨g, 0, none⟩)] w0 (fun e w' => XQ w0 c r ao cap inp g (iMore 14 x) e w' ∧ Hid (Typed (argLay dv) (iMore 14 x).2)) := by
  obtain ⟨y0, e0⟩ : ∃ z, z = x := ⟨_, rfl⟩
  rw [← e0] at h hk hz ⊢
  have A0 : Hid (IX w0 c r ao cap inp g y0) := h
  have K0 : Hid (Typed (argLay dv) y0.2) := hk
  have Z0 : Hid (Zs y0.2) := hz
  have M0 : Hid (Mods (FG c r g) w0 w0) := Mods.refl _ _
  clear e0 h hk hz
  go_enter Try.func34, Try.ntmps34
  obtain ⟨y1, e1⟩ : ∃ z, z = pText 64 1 y0 := ⟨_, rfl⟩
  have K1 : Hid (Typed (argLay dv) y1.2) := by show Typed _ _; rw [e1]; exact K0.out.tText (by decide) rfl
  have E1 := hid e1; clear e1
  have D := hid (A0.out.text K0.out (o := 1) rfl 64 (by decide))
  rw [← E1.out] at D
  go_wp2_with fail
  refine D.out.mono ?_
  rintro e wa ⟨rfl, A1, m, ⟨u, hu⟩, hf⟩
  clear D
  go_upto_region 21 with fail
  generalize World.setCell wa _ _ = w1 at A1 m ⊢
  clear hu hf
  have M1 := hid (M0.out.trans m.out); clear m
  obtain ⟨y2, e2⟩ : ∃ z, z = pText 255 3 y1 := ⟨_, rfl⟩
  have K2 : Hid (Typed (argLay dv) y2.2) := by show Typed _ _; rw [e2]; exact K1.out.tText (by decide) rfl
  have E2 := hid e2; clear e2
  have D := hid (A1.out.text K1.out (o := 3) rfl 255 (by decide))
  rw [← E2.out] at D
  go_wp2_with fail
  refine D.out.mono ?_
  rintro e wa ⟨rfl, A2, m, ⟨u, hu⟩, hf⟩
  clear D
  have M2 := hid (M1.out.trans m.out); clear m
  go_wp2
  go_end0
  have hend : iMore 14 y0 = y2 := by
    show iMore 14 y0 = _
    rw [E2.out, E1.out]
    simp only [iMore, pNamed]
    try rfl
  rw [hend]
  exact ⟨⟨rfl, A2, M2⟩, K2⟩

set_option maxRecDepth 100000 in
set_option maxHeartbeats 4000000 in
theorem more_in_15 (c r : Nat) (ao : Option Addr) (cap : Nat) (inp : List UInt8) (g : Nat) (x : X) (dv : Value) (w0 : World) (h : IX w0 c r ao cap inp g x) (hk : Typed (argLay dv) x.2) (hz : Zs x.2) :
    Calls Try.prog 34 #[.pointer (some ⟨c, 0, none⟩), .int .i64 15, .pointer (some ⟨g, 0, none⟩)] w0 (fun e w' => XQ w0 c r ao cap inp g (iMore 15 x) e w' ∧ Hid (Typed (argLay dv) (iMore 15 x).2)) := by
  obtain ⟨y0, e0⟩ : ∃ z, z = x := ⟨_, rfl⟩
  rw [← e0] at h hk hz ⊢
  have A0 : Hid (IX w0 c r ao cap inp g y0) := h
  have K0 : Hid (Typed (argLay dv) y0.2) := hk
  have Z0 : Hid (Zs y0.2) := hz
  have M0 : Hid (Mods (FG c r g) w0 w0) := Mods.refl _ _
  clear e0 h hk hz
  go_enter Try.func34, Try.ntmps34
  obtain ⟨y1, e1⟩ : ∃ z, z = pText 64 1 y0 := ⟨_, rfl⟩
  have K1 : Hid (Typed (argLay dv) y1.2) := by show Typed _ _; rw [e1]; exact K0.out.tText (by decide) rfl
  have E1 := hid e1; clear e1
  have D := hid (A0.out.text K0.out (o := 1) rfl 64 (by decide))
  rw [← E1.out] at D
  go_wp2_with fail
  refine D.out.mono ?_
  rintro e wa ⟨rfl, A1, m, ⟨u, hu⟩, hf⟩
  clear D
  go_upto_region 21 with fail
  generalize World.setCell wa _ _ = w1 at A1 m ⊢
  clear hu hf
  have M1 := hid (M0.out.trans m.out); clear m
  obtain ⟨y2, e2⟩ : ∃ z, z = pText 255 3 y1 := ⟨_, rfl⟩
  have K2 : Hid (Typed (argLay dv) y2.2) := by show Typed _ _; rw [e2]; exact K1.out.tText (by decide) rfl
  have E2 := hid e2; clear e2
  have D := hid (A1.out.text K1.out (o := 3) rfl 255 (by decide))
  rw [← E2.out] at D
  go_wp2_with fail
  refine D.out.mono ?_
  rintro e wa ⟨rfl, A2, m, ⟨u, hu⟩, hf⟩
  clear D
  have M2 := hid (M1.out.trans m.out); clear m
  go_wp2
  go_end0
  have hend : iMore 15 y0 = y2 := by
    show iMore 15 y0 = _
    rw [E2.out, E1.out]
    simp only [iMore, pNamed]
    try rfl
  rw [hend]
  exact ⟨⟨rfl, A2, M2⟩, K2⟩

set_option maxRecDepth 100000 in
set_option maxHeartbeats 4000000 in
theorem more_in_16 (c r : Nat) (ao : Option Addr) (cap : Nat) (inp : List UInt8) (g : Nat) (x : X) (dv : Value) (w0 : World) (h : IX w0 c r ao cap inp g x) (hk : Typed (argLay dv) x.2) (hz : Zs x.2) :
    Calls Try.prog 34 #[.pointer (some ⟨c, 0, none⟩), .int .i64 16, .pointer (some ⟨g, 0, none⟩)] w0 (fun e w' => XQ w0 c r ao cap inp g (iMore 16 x) e w' ∧ Hid (Typed (argLay dv) (iMore 16 x).2)) := by
  obtain ⟨y0, e0⟩ : ∃ z, z = x := ⟨_, rfl⟩
  rw [← e0] at h hk hz ⊢
  have A0 : Hid (IX w0 c r ao cap inp g y0) := h
  have K0 : Hid (Typed (argLay dv) y0.2) := hk
  have Z0 : Hid (Zs y0.2) := hz
  have M0 : Hid (Mods (FG c r g) w0 w0) := Mods.refl _ _
  clear e0 h hk hz
  go_enter Try.func34, Try.ntmps34
  obtain ⟨y1, e1⟩ : ∃ z, z = num1 8 .u64 30 y0 := ⟨_, rfl⟩
  have K1 : Hid (Typed (argLay dv) y1.2) := by show Typed _ _; rw [e1]; exact K0.out.tU64 rfl
  have E1 := hid e1; clear e1
  have D := hid (A0.out.u64 K0.out (o := 30) rfl)
  rw [← E1.out] at D
  have hc := A0.out.it.c0
  go_wp2_with fail
  refine D.out.mono ?_
  rintro e wa ⟨rfl, A1, m, ⟨u, hu⟩, hf⟩
  clear D hc
  go_upto_region 25 with fail
  generalize World.setCell wa _ _ = w1 at A1 m ⊢
  clear hu hf
  have M1 := hid (M0.out.trans m.out); clear m
  obtain ⟨y2, e2⟩ : ∃ z, z = num1 8 .u64 31 y1 := ⟨_, rfl⟩
  have K2 : Hid (Typed (argLay dv) y2.2) := by show Typed _ _; rw [e2]; exact K1.out.tU64 rfl
  have E2 := hid e2; clear e2
  have D := hid (A1.out.u64 K1.out (o := 31) rfl)
  rw [← E2.out] at D
  have hc := A1.out.it.c0
  go_wp2_with fail
  refine D.out.mono ?_
  rintro e wa ⟨rfl, A2, m, ⟨u, hu⟩, hf⟩
  clear D hc
  go_upto_region 26 with fail
  generalize World.setCell wa _ _ = w2 at A2 m ⊢
  clear hu hf
  have M2 := hid (M1.out.trans m.out); clear m
  obtain ⟨y3, e3⟩ : ∃ z, z = num1 4 .u32 24 y2 := ⟨_, rfl⟩
  have K3 : Hid (Typed (argLay dv) y3.2) := by show Typed _ _; rw [e3]; exact K2.out.tU32 rfl
  have E3 := hid e3; clear e3
  have D := hid (A2.out.u32 K2.out (o := 24) rfl)
  rw [← E3.out] at D
  go_wp2_with fail
  refine D.out.mono ?_
  rintro e wa ⟨rfl, A3, m, ⟨u, hu⟩, hf⟩
  clear D
  have M3 := hid (M2.out.trans m.out); clear m
  go_wp2
  go_end0
  have hend : iMore 16 y0 = y3 := by
    show iMore 16 y0 = _
    rw [E3.out, E2.out, E1.out]
    simp only [iMore, pNamed]
    try rfl
  rw [hend]
  exact ⟨⟨rfl, A3, M3⟩, K3⟩

set_option maxRecDepth 100000 in
set_option maxHeartbeats 4000000 in
theorem more_in_17 (c r : Nat) (ao : Option Addr) (cap : Nat) (inp : List UInt8) (g : Nat) (x : X) (dv : Value) (w0 : World) (h : IX w0 c r ao cap inp g x) (hk : Typed (argLay dv) x.2) (hz : Zs x.2) :
    Calls Try.prog 34 #[.pointer (some ⟨c, 0, none⟩), .int .i64 17, .pointer (some ⟨g, 0, none⟩)] w0 (fun e w' => XQ w0 c r ao cap inp g (iMore 17 x) e w' ∧ Hid (Typed (argLay dv) (iMore 17 x).2)) := by
  obtain ⟨y0, e0⟩ : ∃ z, z = x := ⟨_, rfl⟩
  rw [← e0] at h hk hz ⊢
  have A0 : Hid (IX w0 c r ao cap inp g y0) := h
  have K0 : Hid (Typed (argLay dv) y0.2) := hk
  have Z0 : Hid (Zs y0.2) := hz
  have M0 : Hid (Mods (FG c r g) w0 w0) := Mods.refl _ _
  clear e0 h hk hz
  go_enter Try.func34, Try.ntmps34
  obtain ⟨y1, e1⟩ : ∃ z, z = num1 8 .u64 30 y0 := ⟨_, rfl⟩
  have K1 : Hid (Typed (argLay dv) y1.2) := by show Typed _ _; rw [e1]; exact K0.out.tU64 rfl
  have E1 := hid e1; clear e1
  have D := hid (A0.out.u64 K0.out (o := 30) rfl)
  rw [← E1.out] at D
  have hc := A0.out.it.c0
  go_wp2_with fail
  refine D.out.mono ?_
  rintro e wa ⟨rfl, A1, m, ⟨u, hu⟩, hf⟩
  clear D hc
  go_upto_region 25 with fail
  generalize World.setCell wa _ _ = w1 at A1 m ⊢
  clear hu hf
  have M1 := hid (M0.out.trans m.out); clear m
  obtain ⟨y2, e2⟩ : ∃ z, z = num1 8 .u64 31 y1 := ⟨_, rfl⟩
  have K2 : Hid (Typed (argLay dv) y2.2) := by show Typed _ _; rw [e2]; exact K1.out.tU64 rfl
  have E2 := hid e2; clear e2
  have D := hid (A1.out.u64 K1.out (o := 31) rfl)
  rw [← E2.out] at D
  have hc := A1.out.it.c0
  go_wp2_with fail
  refine D.out.mono ?_
  rintro e wa ⟨rfl, A2, m, ⟨u, hu⟩, hf⟩
  clear D hc
  go_upto_region 26 with fail
  generalize World.setCell wa _ _ = w2 at A2 m ⊢
  clear hu hf
  have M2 := hid (M1.out.trans m.out); clear m
  obtain ⟨y3, e3⟩ : ∃ z, z = num1 4 .u32 32 y2 := ⟨_, rfl⟩
  have K3 : Hid (Typed (argLay dv) y3.2) := by show Typed _ _; rw [e3]; exact K2.out.tU32 rfl
  have E3 := hid e3; clear e3
  have D := hid (A2.out.u32 K2.out (o := 32) rfl)
  rw [← E3.out] at D
  go_wp2_with fail
  refine D.out.mono ?_
  rintro e wa ⟨rfl, A3, m, ⟨u, hu⟩, hf⟩
  clear D
  go_upto_region 29 with fail
  generalize World.setCell wa _ _ = w3 at A3 m ⊢
  clear hu hf
  have M3 := hid (M2.out.trans m.out); clear m
  obtain ⟨y4, e4⟩ : ∃ z, z = num1 4 .u32 33 y3 := ⟨_, rfl⟩
  have K4 : Hid (Typed (argLay dv) y4.2) := by show Typed _ _; rw [e4]; exact K3.out.tU32 rfl
  have E4 := hid e4; clear e4
  have D := hid (A3.out.u32 K3.out (o := 33) rfl)
  rw [← E4.out] at D
  go_wp2_with fail
  refine D.out.mono ?_
  rintro e wa ⟨rfl, A4, m, ⟨u, hu⟩, hf⟩
  clear D
  have M4 := hid (M3.out.trans m.out); clear m
  go_wp2
  go_end0
  have hend : iMore 17 y0 = y4 := by
    show iMore 17 y0 = _
    rw [E4.out, E3.out, E2.out, E1.out]
    simp only [iMore, pNamed]
    try rfl
  rw [hend]
  exact ⟨⟨rfl, A4, M4⟩, K4⟩

set_option maxRecDepth 100000 in
set_option maxHeartbeats 4000000 in
theorem more_in_no (q : Int) (hq : q ≠ 8 ∧ q ≠ 9 ∧ q ≠ 10 ∧ q ≠ 11 ∧ q ≠ 14 ∧ q ≠ 15 ∧ q ≠ 16 ∧ q ≠ 17) (c r : Nat) (ao : Option Addr) (cap : Nat) (inp : List UInt8) (g : Nat) (x : X) (dv : Value) (w0 : World) (h : IX w0 c r ao cap inp g x) (hk : Typed (argLay dv) x.2) (hz : Zs x.2) :
    Calls Try.prog 34 #[.pointer (some ⟨c, 0, none⟩), .int .i64 q, .pointer (some ⟨g, 0, none⟩)] w0 (fun e w' => XQ w0 c r ao cap inp g (iMore q x) e w' ∧ Hid (Typed (argLay dv) (iMore q x).2)) := by
  obtain ⟨y0, e0⟩ : ∃ z, z = x := ⟨_, rfl⟩
  rw [← e0] at h hk hz ⊢
  have A0 : Hid (IX w0 c r ao cap inp g y0) := h
  have K0 : Hid (Typed (argLay dv) y0.2) := hk
  have Z0 : Hid (Zs y0.2) := hz
  have M0 : Hid (Mods (FG c r g) w0 w0) := Mods.refl _ _
  clear e0 h hk hz
  have n8 : (q == 8) = false := by simpa using hq.1
  have n9 : (q == 9) = false := by simpa using hq.2.1
  have n10 : (q == 10) = false := by simpa using hq.2.2.1
  have n11 : (q == 11) = false := by simpa using hq.2.2.2.1
  have n14 : (q == 14) = false := by simpa using hq.2.2.2.2.1
  have n15 : (q == 15) = false := by simpa using hq.2.2.2.2.2.1
  have n16 : (q == 16) = false := by simpa using hq.2.2.2.2.2.2.1
  have n17 : (q == 17) = false := by simpa using hq.2.2.2.2.2.2.2
  have HQ := hid hq; clear hq
  go_enter Try.func34, Try.ntmps34
  go_wp2
  go_end0
  have hend : iMore q y0 = y0 := by
    show iMore q y0 = _
    simp only [iMore, pNamed, HQ.out, if_false]
    try rfl
  rw [hend]
  exact ⟨⟨rfl, A0, M0⟩, K0⟩

theorem more_in (q : Int) (c r : Nat) (ao : Option Addr) (cap : Nat) (inp : List UInt8) (g : Nat) (x : X) (dv : Value) (w0 : World) (h : IX w0 c r ao cap inp g x) (hk : Typed (argLay dv) x.2) (hz : Zs x.2) :
    Calls Try.prog 34 #[.pointer (some ⟨c, 0, none⟩), .int .i64 q, .pointer (some ⟨g, 0, none⟩)] w0 (fun e w' => XQ w0 c r ao cap inp g (iMore q x) e w' ∧ Hid (Typed (argLay dv) (iMore q x).2)) := by
  by_cases hq : q ≠ 8 ∧ q ≠ 9 ∧ q ≠ 10 ∧ q ≠ 11 ∧ q ≠ 14 ∧ q ≠ 15 ∧ q ≠ 16 ∧ q ≠ 17
  · exact more_in_no q hq c r ao cap inp g x dv w0 h hk hz
  · have hc : q = 8 ∨ q = 9 ∨ q = 10 ∨ q = 11 ∨ q = 14 ∨ q = 15 ∨ q = 16 ∨ q = 17 := by omega
    rcases hc with rfl | rfl | rfl | rfl | rfl | rfl | rfl | rfl
    · exact more_in_8 c r ao cap inp g x dv w0 h hk hz
    · exact more_in_9 c r ao cap inp g x dv w0 h hk hz
    · exact more_in_10 c r ao cap inp g x dv w0 h hk hz
    · exact more_in_11 c r ao cap inp g x dv w0 h hk hz
    · exact more_in_14 c r ao cap inp g x dv w0 h hk hz
    · exact more_in_15 c r ao cap inp g x dv w0 h hk hz
    · exact more_in_16 c r ao cap inp g x dv w0 h hk hz
    · exact more_in_17 c r ao cap inp g x dv w0 h hk hz

end Go.Proofs.Ytanknjpcgceccaa
