/- The reference's In: time, set. (Printed by wip/tools/gen_ri3.py.) -/
import Derived.Test.YtanknjpcgceccaaRi2
namespace Go.Proofs.Ytanknjpcgceccaa
open Go.RowKit

theorem results_cell1 {fn : Func} {a t : Nat} (h : fn.results = #[.cell a t]) {P : Program} {w : World} {tmps : Array Value} {p : Addr} {v : Value} (ha : tmps.getD a undef = .pointer (some p)) (hl : (loadVar t p).run P w = .ok v w) :
    (results fn tmps).run P w = .ok v w := by
  have ha' : tmps[a]?.getD undef = .pointer (some p) := by rw [← Array.getD_eq_getD_getElem?]; exact ha
  simp [results, h, ha', asAddr, hl]

set_option maxRecDepth 100000 in
set_option maxHeartbeats 1000000 in
theorem time_in (c r : Nat) (ao : Option Addr) (cap : Nat) (inp : List UInt8) (s : St) (u u2 : Int) (w : World) (h : IAt w c r ao cap inp s) :
    Calls Try.prog 29 #[.pointer (some ⟨c, 0, none⟩)] w (IQ w c r ao cap inp (.agg #[.int .u32 (s.num 4 u).1, .int .u32 ((s.num 4 u).2.num 4 u2).1]) ((s.num 4 u).2.num 4 u2).2) := by
  obtain ⟨q, hq⟩ : ∃ q, q = s.num 4 u := ⟨_, rfl⟩
  rw [← hq]
  obtain ⟨p, hp⟩ : ∃ p, p = q.2.num 4 u2 := ⟨_, rfl⟩
  rw [← hp]
  have h' : IAt (w.alloc (.cells #[.int .u32 0, .int .u32 0] 26)) c r ao cap inp s := h.keep (Mods.alloc (fun _ => False) _ _) fun _ _ h => h
  have D := hid (h'.u32 u)
  rw [← hq] at D
  have HP := hid hp
  have HLT := hid h.lt
  have hc := h'.c0
  clear h h' hq hp
  go_enter Try.func29, Try.ntmps29
  go_wp2_with fail
  refine D.out.mono ?_
  rintro e w1 ⟨rfl, q1, q2⟩
  clear D hc
  go_upto_region 2 with fail
  have hz : Blk (w.alloc (.cells #[.int .u32 0, .int .u32 0] 26)) w.heap.size (fun j => #[Value.int .u32 0, .int .u32 0][j]?) := Blk.new w _ _
  have hlt0 := HLT.out
  have hnf : ¬ FI c r w.heap.size := fun e => by
    rcases e with e | e
    · have := hlt0 c (.inl rfl); omega
    · have := hlt0 r (.inr (.inl rfl)); omega
  have hz1 := hz.keep q2.out hnf
  have hs1 := q2.out.size
  simp at hs1
  have hz2 := hz1.keep (Mods.alloc (fun _ => False) w1 (.cells #[.int .u32 q.1, .int .u32 0] 26)) fun h => h
  have hg : Blk (w1.alloc (.cells #[.int .u32 q.1, .int .u32 0] 26)) w1.heap.size (fun j => #[Value.int .u32 q.1, .int .u32 0][j]?) := Blk.new w1 _ _
  have hm2 : Mods (fun _ => False) w1 (w1.alloc (.cells #[.int .u32 q.1, .int .u32 0] 26)) := Mods.alloc _ _ _
  generalize w1.alloc (.cells #[.int .u32 q.1, .int .u32 0] 26) = w2 at hz2 hg hm2 ⊢
  have hi2 := q1.out.keep hm2 fun _ _ h => h
  have hc := hi2.c0
  have D := hid (hi2.u32 u2)
  rw [← HP.out] at D
  have hnf2 : ¬ FI c r w1.heap.size := fun e => by
    rcases e with e | e
    · have := hlt0 c (.inl rfl); omega
    · have := hlt0 r (.inr (.inl rfl)); omega
  have hne : w.heap.size ≠ w1.heap.size := by omega
  have HM02 := hid (((Mods.alloc (fun _ => False) w (.cells #[.int .u32 0, .int .u32 0] 26)).mono fun _ _ h => h.elim).trans (q2.out.trans (hm2.mono fun _ _ h => h.elim)))
  obtain ⟨g, hgg⟩ : ∃ g, g = w1.heap.size := ⟨_, rfl⟩
  obtain ⟨g2, hgg2⟩ : ∃ g, g = w.heap.size := ⟨_, rfl⟩
  rw [← hgg, ← hgg2] at hne
  rw [← hgg2] at hnf hz2 ⊢
  rw [← hgg] at hnf2 hg ⊢
  have HGG2 : Hid (w.heap.size = g2) := hgg2.symm
  have HGE : Hid (w.heap.size ≤ g) := by show _ ≤ _; omega
  have HZ2 := hid hz2; have HG2 := hid hg
  clear hz hz1 hs1 hm2 hi2 q1 q2 hz2 hg hlt0 hgg hgg2
  have HNF := hid hnf; have HNF2 := hid hnf2
  clear hnf hnf2
  go_wp2_with fail
  refine D.out.mono ?_
  rintro e w3 ⟨rfl, q1, q2⟩
  clear D hc
  have hz3 := HZ2.out.keep q2.out HNF.out
  have hg3 := HG2.out.keep q2.out HNF2.out
  have hm3 := HM02.out.trans q2.out
  have h4 := hg3.set (o := 1) (u := .int .u32 0) rfl (.int .u32 p.1)
  have hm4 : Mods (fun k => k = g) w3 (w3.setCell ⟨g, 1, none⟩ (.int .u32 p.1)) := Mods.setCell (F := fun k => k = g) (a := ⟨g, 1, none⟩) rfl _
  have hz4 := hz3.keep hm4 hne
  have hI4 := q1.out.keep hm4 fun k hk e => by
    subst e
    have := HLT.out k hk
    have := HGE.out
    omega
  have c1 : w3.cell? ⟨g, 1, none⟩ = some (.int .u32 0) := hg3.cell 1
  have f1 := hg3.free 1
  have HM4 := hid (hm3.step hm4 fun k hk e => by subst e; have := HGE.out; omega)
  have HZ4 := hid hz4; have H4 := hid h4; have HI4 := hid hI4
  clear hz3 hg3 hm3 hm4 hz4 h4 hI4 q1 q2 HZ2 HG2 HM02
  go_upto_region 3 with fail
  generalize w3.setCell ⟨g, 1, none⟩ (.int .u32 p.1) = w4 at HZ4 H4 HI4 HM4 ⊢
  clear c1 f1
  have x0 : w4.cell? ⟨g, 0, none⟩ = some (.int .u32 q.1) := H4.out.cell 0
  have x1 : w4.cell? ⟨g, 1, none⟩ = some (.int .u32 p.1) := H4.out.cell 1
  have z0 : w4.cell? ⟨g2, 0, none⟩ = some (.int .u32 0) := HZ4.out.cell 0
  have z1 : w4.cell? ⟨g2, 1, none⟩ = some (.int .u32 0) := HZ4.out.cell 1
  have k0 := HZ4.out.free 0
  have k1 := HZ4.out.free 1
  go_wp2_with fail
  have h5 := (HZ4.out.set (o := 0) (u := .int .u32 0) rfl (.int .u32 q.1)).set (o := 1) (u := .int .u32 0) rfl (.int .u32 p.1)
  have hm5 : Mods (fun k => k = g2) w4 ((w4.setCell ⟨g2, 0, none⟩ (.int .u32 q.1)).setCell ⟨g2, 1, none⟩ (.int .u32 p.1)) := (Mods.setCell (F := fun k => k = g2) (a := ⟨g2, 0, none⟩) rfl _).trans (Mods.setCell (F := fun k => k = g2) (a := ⟨g2, 1, none⟩) rfl _)
  generalize (w4.setCell ⟨g2, 0, none⟩ (.int .u32 q.1)).setCell ⟨g2, 1, none⟩ (.int .u32 p.1) = w5 at h5 hm5 ⊢
  have hr : w5.rangeAt g2 0 [.int .u32 q.1, .int .u32 p.1] := fun j v hj => by
    match j with
    | 0 => obtain rfl := Option.some.inj hj; exact h5.cell 0
    | 1 => obtain rfl := Option.some.inj hj; exact h5.cell 1
    | j + 2 => simp at hj
  refine bodyPost_ret (results_cell1 rfl rfl (run_loadVar_mid w5 g2 0 26 [.int .u32 q.1, .int .u32 p.1] _ hr Try.underlying26 rfl (by kernel_rfl))) rfl ?_
  exact ⟨rfl, HI4.out.keep hm5 fun k hk e => by
    subst e
    have := HLT.out k hk
    have := HGG2.out
    omega, HM4.out.step hm5 fun k hk e => by have := HGG2.out; omega⟩

/-- 'x.t = r.time()' -/
def XT (w : World) (c r : Nat) (ao : Option Addr) (cap : Nat) (inp : List UInt8) (g o : Nat) (u1 u2 : Value) (x' : X) (e : Ending) (w1 : World) : Prop :=
  e = .returned (.agg #[u1, u2]) ∧ Hid (IX ((w1.setCell ⟨g, o, none⟩ u1).setCell ⟨g, o + 1, none⟩ u2) c r ao cap inp g x') ∧ Hid (Mods (FG c r g) w ((w1.setCell ⟨g, o, none⟩ u1).setCell ⟨g, o + 1, none⟩ u2)) ∧
    (∃ z, w1.cell? ⟨g, o, none⟩ = some z) ∧ w1.frozen? ⟨g, o, none⟩ = false ∧ (∃ z, w1.cell? ⟨g, o + 1, none⟩ = some z) ∧ w1.frozen? ⟨g, o + 1, none⟩ = false
theorem IX.time {w : World} {c r : Nat} {ao : Option Addr} {cap : Nat} {inp : List UInt8} {g : Nat} {x : X} {lay : List Ty} {o : Nat} (h : IX w c r ao cap inp g x) (hk : Typed lay x.2) (h0 : lay[o]? = some .u32) (h1 : lay[o + 1]? = some .u32) :
    Calls Try.prog 29 #[.pointer (some ⟨c, 0, none⟩)] w (XT w c r ao cap inp g o (.int .u32 (iv ((pTime o x).2 o))) (.int .u32 (iv ((pTime o x).2 (o + 1)))) (pTime o x)) := by
  have e0 := (hk o _ h0).u32v
  have e1 := (hk (o + 1) _ h1).u32v
  have e2 : upd x.2 o (.int .u32 (x.1.num 4 (iv (x.2 o))).1) (o + 1) = x.2 (o + 1) := upd_ne _ _ (by omega)
  have hv : iv ((pTime o x).2 o) = (x.1.num 4 (iv (x.2 o))).1 := by
    show iv (upd (upd x.2 o _) (o + 1) _ o) = _
    rw [upd_ne _ _ (by omega), upd_at]; rfl
  have hv2 : iv ((pTime o x).2 (o + 1)) = ((x.1.num 4 (iv (x.2 o))).2.num 4 (iv (x.2 (o + 1)))).1 := by
    show iv (upd (upd x.2 o _) (o + 1) _ (o + 1)) = _
    rw [upd_at]
    show ((x.1.num 4 (iv (x.2 o))).2.num 4 (iv (upd x.2 o _ (o + 1)))).1 = _
    rw [e2]
  have hx : pTime o x = (((x.1.num 4 (iv (x.2 o))).2.num 4 (iv (x.2 (o + 1)))).2, upd (upd x.2 o (.int .u32 (x.1.num 4 (iv (x.2 o))).1)) (o + 1) (.int .u32 ((x.1.num 4 (iv (x.2 o))).2.num 4 (iv (x.2 (o + 1)))).1)) := by
    show num1 4 .u32 (o + 1) (num1 4 .u32 o x) = _
    simp only [num1, e2]
  rw [hv, hv2, hx]
  refine (time_in c r ao cap inp x.1 (iv (x.2 o)) (iv (x.2 (o + 1))) w h.it).mono ?_
  rintro e w1 ⟨he, q1, q2⟩
  have h1 := h.read q1.out q2.out
  have h2 := h1.put e0 (.int .u32 (x.1.num 4 (iv (x.2 o))).1)
  have h3 := h2.put (o := o + 1) (e2.trans e1) (.int .u32 ((x.1.num 4 (iv (x.2 o))).2.num 4 (iv (x.2 (o + 1)))).1)
  exact ⟨he, h3, (FI.fg q2.out g).trans ((IX.mput _ _ _ _ _ _).trans (IX.mput _ _ _ _ _ _)), ⟨_, (h1.bl.cell o).trans e0⟩, h1.bl.free o, ⟨_, (h1.bl.cell (o + 1)).trans e1⟩, h1.bl.free (o + 1)⟩

def zS : Cells := fun j => zeroSat.cells[j]?
theorem zS_typed : Typed satLay zS := by
  intro j t hj
  have hlt : j < 14 := (List.getElem?_eq_some_iff.1 hj).1
  match j, hlt with
  | 0, _ => obtain rfl := Option.some.inj hj; exact ⟨false, rfl⟩
  | 1, _ => obtain rfl := Option.some.inj hj; exact ⟨false, rfl⟩
  | 2, _ => obtain rfl := Option.some.inj hj; exact ⟨false, rfl⟩
  | 3, _ => obtain rfl := Option.some.inj hj; exact ⟨false, rfl⟩
  | 4, _ => obtain rfl := Option.some.inj hj; exact ⟨0, rfl⟩
  | 5, _ => obtain rfl := Option.some.inj hj; exact ⟨0, rfl, by decide, by decide⟩
  | 6, _ => obtain rfl := Option.some.inj hj; exact ⟨0, rfl, by decide, by decide⟩
  | 7, _ => obtain rfl := Option.some.inj hj; exact ⟨0, rfl, by decide, by decide⟩
  | 8, _ => obtain rfl := Option.some.inj hj; exact ⟨0, rfl⟩
  | 9, _ => obtain rfl := Option.some.inj hj; exact ⟨0, rfl⟩
  | 10, _ => obtain rfl := Option.some.inj hj; exact ⟨0, rfl, by decide, by decide⟩
  | 11, _ => obtain rfl := Option.some.inj hj; exact ⟨0, rfl, by decide, by decide⟩
  | 12, _ => obtain rfl := Option.some.inj hj; exact ⟨0, rfl, by decide, by decide⟩
  | 13, _ => obtain rfl := Option.some.inj hj; exact ⟨0, rfl, by decide, by decide⟩
theorem segC_one {lay : List Ty} {A : Cells} {n : Nat} (h : Typed lay A) (hl : ∀ j, j < n → ∃ t, lay[j]? = some t ∧ t ≠ .any ∧ ∀ v, t = .is v → v.oneCell' = true) : (segC A n).toArray.all (·.oneCell') = true := by
  rw [Array.all_eq_true]
  intro i hi
  have hi' : i < n := by simpa [segC_length] using hi
  obtain ⟨t, h1, h2, h3⟩ := hl i hi'
  have h4 : (segC A n).toArray[i] = (A i).getD undef := (segC_at (A := A) (n := n) (j := i) (by simp)).2
  rw [h4]
  have h5 := h i t h1
  cases t with
  | int => rw [h5.iv]; rfl
  | u32 => rw [h5.u32v]; rfl
  | u64 => rw [h5.u64v]; rfl
  | bool => rw [h5.bv]; rfl
  | str => rw [h5.sv.1]; rfl
  | any => exact absurd rfl h2
  | is v => rw [show A i = some v from h5]; exact h3 v rfl
theorem sat0_eq : zeroSat.cells.toArray = #[.bool false, .bool false, .bool false, .bool false, .int .i64 0, .int .u32 0, .int .u32 0, .int .u64 0, .int .i64 0, .int .i64 0, .int .u32 0, .int .u32 0, .int .u32 0, .int .u32 0] := rfl
theorem satLay_plain (j : Nat) (h : j < 14) : ∃ t, satLay[j]? = some t ∧ t ≠ .any ∧ ∀ v, t = .is v → v.oneCell' = true := by
  match j, h with
  | 0, _ => exact ⟨_, rfl, (fun h => nomatch h), (fun v h => nomatch h)⟩
  | 1, _ => exact ⟨_, rfl, (fun h => nomatch h), (fun v h => nomatch h)⟩
  | 2, _ => exact ⟨_, rfl, (fun h => nomatch h), (fun v h => nomatch h)⟩
  | 3, _ => exact ⟨_, rfl, (fun h => nomatch h), (fun v h => nomatch h)⟩
  | 4, _ => exact ⟨_, rfl, (fun h => nomatch h), (fun v h => nomatch h)⟩
  | 5, _ => exact ⟨_, rfl, (fun h => nomatch h), (fun v h => nomatch h)⟩
  | 6, _ => exact ⟨_, rfl, (fun h => nomatch h), (fun v h => nomatch h)⟩
  | 7, _ => exact ⟨_, rfl, (fun h => nomatch h), (fun v h => nomatch h)⟩
  | 8, _ => exact ⟨_, rfl, (fun h => nomatch h), (fun v h => nomatch h)⟩
  | 9, _ => exact ⟨_, rfl, (fun h => nomatch h), (fun v h => nomatch h)⟩
  | 10, _ => exact ⟨_, rfl, (fun h => nomatch h), (fun v h => nomatch h)⟩
  | 11, _ => exact ⟨_, rfl, (fun h => nomatch h), (fun v h => nomatch h)⟩
  | 12, _ => exact ⟨_, rfl, (fun h => nomatch h), (fun v h => nomatch h)⟩
  | 13, _ => exact ⟨_, rfl, (fun h => nomatch h), (fun v h => nomatch h)⟩
theorem Typed.isSome {lay : List Ty} {A : Cells} (h : Typed lay A) {j : Nat} {t : Ty} (hj : lay[j]? = .some t) (ht : t ≠ .any) : (A j).isSome = true := by
  obtain ⟨u, hu⟩ := h.some hj ht
  rw [hu]; rfl

set_option maxRecDepth 100000 in
set_option maxHeartbeats 4000000 in
theorem set_in (c r : Nat) (ao : Option Addr) (cap : Nat) (inp : List UInt8) (s : St) (w : World) (h : IAt w c r ao cap inp s) :
    Calls Try.prog 27 #[.pointer (some ⟨c, 0, none⟩)] w (fun e w' => IQ w c r ao cap inp (.agg (segC (pSet 0 (s, zS)).2 14).toArray) (pSet 0 (s, zS)).1 e w' ∧ Hid (Typed satLay (pSet 0 (s, zS)).2)) := by
  obtain ⟨y0, e0⟩ : ∃ z : X, z = (s, zS) := ⟨_, rfl⟩
  rw [← e0]
  have K0 : Hid (Ok satLay s.size y0) := by rw [e0]; exact ⟨zS_typed, Nat.le_refl _⟩
  obtain ⟨y1, e1⟩ : ∃ z, z = pTruth 0 y0 := ⟨_, rfl⟩
  have K1 : Hid (Ok satLay (s.size + 4) y1) := by rw [e1]; exact (K0.out.truth rfl).mono (by omega)
  obtain ⟨y2, e2⟩ : ∃ z, z = pIf 0 (pNumber 0 4294967295 4) y1 := ⟨_, rfl⟩
  have K2 : Hid (Ok satLay (s.size + 8) y2) := by rw [e2]; exact (K1.out.pif (K1.out.number rfl)).mono (by omega)
  obtain ⟨y3, e3⟩ : ∃ z, z = pTruth 1 y2 := ⟨_, rfl⟩
  have K3 : Hid (Ok satLay (s.size + 12) y3) := by rw [e3]; exact (K2.out.truth rfl).mono (by omega)
  obtain ⟨y4, e4⟩ : ∃ z, z = pIf 1 (num1 4 .u32 5) y3 := ⟨_, rfl⟩
  have K4 : Hid (Ok satLay (s.size + 16) y4) := by rw [e4]; exact (K3.out.pif (K3.out.num1 rfl)).mono (by omega)
  obtain ⟨y5, e5⟩ : ∃ z, z = pTruth 2 y4 := ⟨_, rfl⟩
  have K5 : Hid (Ok satLay (s.size + 20) y5) := by rw [e5]; exact (K4.out.truth rfl).mono (by omega)
  obtain ⟨y6, e6⟩ : ∃ z, z = pIf 2 (num1 4 .u32 6) y5 := ⟨_, rfl⟩
  have K6 : Hid (Ok satLay (s.size + 24) y6) := by rw [e6]; exact (K5.out.pif (K5.out.num1 rfl)).mono (by omega)
  obtain ⟨y7, e7⟩ : ∃ z, z = pTruth 3 y6 := ⟨_, rfl⟩
  have K7 : Hid (Ok satLay (s.size + 28) y7) := by rw [e7]; exact (K6.out.truth rfl).mono (by omega)
  obtain ⟨y8, e8⟩ : ∃ z, z = pIf 3 (num1 8 .u64 7) y7 := ⟨_, rfl⟩
  have K8 : Hid (Ok satLay (s.size + 36) y8) := by rw [e8]; exact (K7.out.pif (K7.out.num8 rfl)).mono (by omega)
  obtain ⟨y9, e9⟩ : ∃ z, z = pNumber 0 2 8 y8 := ⟨_, rfl⟩
  have K9 : Hid (Ok satLay (s.size + 40) y9) := by rw [e9]; exact (K8.out.number rfl).mono (by omega)
  obtain ⟨y10, e10⟩ : ∃ z, z = (if iv (y9.2 8) = 2 then pTime 10 y9 else y9) := ⟨_, rfl⟩
  have K10 : Hid (Ok satLay (s.size + 48) y10) := by
    rw [e10]; split
    · exact (K9.out.time rfl rfl).mono (by omega)
    · exact K9.out.mono (by omega)
  obtain ⟨y11, e11⟩ : ∃ z, z = pNumber 0 2 9 y10 := ⟨_, rfl⟩
  have K11 : Hid (Ok satLay (s.size + 52) y11) := by rw [e11]; exact (K10.out.number rfl).mono (by omega)
  obtain ⟨y12, e12⟩ : ∃ z, z = (if iv (y11.2 9) = 2 then pTime 12 y11 else y11) := ⟨_, rfl⟩
  have K12 : Hid (Ok satLay (s.size + 60) y12) := by
    rw [e12]; split
    · exact (K11.out.time rfl rfl).mono (by omega)
    · exact K11.out.mono (by omega)
  have F8 : Fr 0 10 y0 y9 := by
    rw [e9, e8, e7, e6, e5, e4, e3, e2, e1]
    have h1 := (Fr.refl 0 10 y0).truth (j := 0) (by omega)
    have h2 := h1.pif (j := 0) (h1.number (j := 4) (by omega) (lo := 0) (hi := 4294967295))
    have h3 := h2.truth (j := 1) (by omega)
    have h4 := h3.pif (j := 1) (h3.num1 (j := 5) (by omega) (m := 4) (k := .u32))
    have h5 := h4.truth (j := 2) (by omega)
    have h6 := h5.pif (j := 2) (h5.num1 (j := 6) (by omega) (m := 4) (k := .u32))
    have h7 := h6.truth (j := 3) (by omega)
    have h8 := h7.pif (j := 3) (h7.num1 (j := 7) (by omega) (m := 8) (k := .u64))
    exact h8.number (j := 8) (by omega)
  have F10 : Fr 0 12 y0 y11 := by
    have h9 : Fr 0 12 y0 y9 := fun j hj => F8 j (by omega)
    rw [e11, e10]
    split
    · exact (h9.time (j := 10) (by omega)).number (j := 9) (by omega)
    · exact h9.number (j := 9) (by omega)
  have z10 : y9.2 10 = some (.int .u32 0) := (F8 10 (by omega)).trans (by rw [e0]; rfl)
  have z11 : y9.2 11 = some (.int .u32 0) := (F8 11 (by omega)).trans (by rw [e0]; rfl)
  have z12 : y11.2 12 = some (.int .u32 0) := (F10 12 (by omega)).trans (by rw [e0]; rfl)
  have z13 : y11.2 13 = some (.int .u32 0) := (F10 13 (by omega)).trans (by rw [e0]; rfl)
  have HEND : Hid (pSet 0 y0 = y12) := by
    have ha : pHow 8 10 y8 = y10 := by
      show (if iv ((pNumber 0 2 8 y8).2 8) = 2 then pTime 10 (pNumber 0 2 8 y8) else ((pNumber 0 2 8 y8).1, upd (upd (pNumber 0 2 8 y8).2 10 (.int .u32 0)) (10 + 1) (.int .u32 0))) = _
      rw [← e9, e10]
      split
      · rfl
      · rw [upd_self z10, upd_self z11]
    have hb : pHow 9 12 y10 = y12 := by
      show (if iv ((pNumber 0 2 9 y10).2 9) = 2 then pTime 12 (pNumber 0 2 9 y10) else ((pNumber 0 2 9 y10).1, upd (upd (pNumber 0 2 9 y10).2 12 (.int .u32 0)) (12 + 1) (.int .u32 0))) = _
      rw [← e11, e12]
      split
      · rfl
      · rw [upd_self z12, upd_self z13]
    show pSet 0 y0 = y12
    rw [← hb, ← ha, e8, e7, e6, e5, e4, e3, e2, e1]; rfl
  clear F8 F10 z10 z11 z12 z13
  rw [HEND.out]
  have E1 := hid e1; clear e1
  have E2 := hid e2; clear e2
  have E3 := hid e3; clear e3
  have E4 := hid e4; clear e4
  have E5 := hid e5; clear e5
  have E6 := hid e6; clear e6
  have E7 := hid e7; clear e7
  have E8 := hid e8; clear e8
  have E9 := hid e9; clear e9
  have E10 := hid e10; clear e10
  have E11 := hid e11; clear e11
  have E12 := hid e12; clear e12
  have H := hid h; have Y0 := hid e0
  clear h e0
  go_enter Try.func27, Try.ntmps27
  go_upto_region 1 with fail
  have hb0 : Blk (w.alloc (.cells zeroSat.cells.toArray 28)) w.heap.size zS := (Blk.new w _ _).congr (by funext j; simp [zS])
  have hm0 : Mods (fun _ => False) w (w.alloc (.cells zeroSat.cells.toArray 28)) := Mods.alloc _ _ _
  have hs0 : (w.alloc (.cells zeroSat.cells.toArray 28)).heap.size = w.heap.size + 1 := by simp
  rw [sat0_eq] at hb0 hm0 hs0
  generalize w.alloc (.cells _ 28) = w1 at hb0 hm0 hs0 ⊢
  have HS0 := hid hs0
  clear hs0
  go_upto_region 2 with fail
  have hs0 := HS0.out
  have hb1 : Blk (w1.alloc (.cells zeroSat.cells.toArray 28)) w1.heap.size zS := (Blk.new w1 _ _).congr (by funext j; simp [zS])
  have hm1 : Mods (fun _ => False) w1 (w1.alloc (.cells zeroSat.cells.toArray 28)) := Mods.alloc _ _ _
  rw [sat0_eq] at hb1 hm1
  generalize w1.alloc (.cells _ 28) = v0 at hb1 hm1 ⊢
  obtain ⟨g, hgg⟩ : ∃ g, g = w1.heap.size := ⟨_, rfl⟩
  obtain ⟨g2, hgg2⟩ : ∃ g, g = w.heap.size := ⟨_, rfl⟩
  have hlt := H.out.lt
  have hfr : ¬ FR c r ao inp.length g := fun hf => by have := hlt g hf; omega
  have HNG : Hid (¬ FG c r g g2) := fun hf => by
    rcases hf with (hf | hf) | hf
    · have := hlt g2 (.inl hf); omega
    · have := hlt g2 (.inr (.inl hf)); omega
    · omega
  have HNR : Hid (∀ k, FR c r ao inp.length k → k ≠ g2) := fun k hk e => by have := hlt k hk; omega
  have hm01 := hm0.trans hm1
  rw [← hgg2] at hb0 ⊢
  rw [← hgg] at hb1 ⊢
  have A0 : Hid (IX v0 c r ao cap inp g y0) := by rw [Y0.out]; exact ⟨H.out.keep hm01 fun _ _ h => h, hb1, hfr⟩
  have M0 : Hid (Mods (FG c r g) v0 v0) := Mods.refl _ _
  have HZ : Hid (Blk v0 g2 zS) := hb0.keep hm1 fun h => h
  have HM0 := hid hm01
  have HGE : Hid (w.heap.size ≤ g) := by show _ ≤ _; omega
  have HG2 : Hid (w.heap.size = g2) := hgg2.symm
  clear HS0 hb0 hm0 hs0 hb1 hm1 hgg hgg2 hlt hfr hm01 H Y0
  have D := hid (A0.out.bool K0.out.ty (o := 0) rfl)
  rw [← E1.out] at D
  have hc := A0.out.it.c0
  go_wp2_with fail
  refine D.out.mono ?_
  rintro e wa ⟨rfl, A1, m, ⟨u, hu⟩, hf⟩
  clear D hc
  go_upto_region 3 with fail
  generalize World.setCell wa _ _ = v1 at A1 m ⊢
  clear hu hf
  have M1 := hid (M0.out.trans m.out); clear m
  obtain ⟨b1, hb⟩ : ∃ b, b = bv (y1.2 0) := ⟨_, rfl⟩
  have hcell : v1.cell? ⟨g, 0, none⟩ = some (.bool b1) := by rw [hb]; exact (A1.out.bl.cell 0).trans (K1.out.ty 0 _ rfl).bv
  have B1 := hid hb; clear hb
  go_upto_if 11 with fail
  go_cut [] from 4 (fun wx => Hid (IX wx c r ao cap inp g y2) ∧ Hid (Mods (FG c r g) v0 wx))
  case first =>
    cases b1
    · have HY : Hid (y2 = y1) := by show _ = _; rw [E2.out, pIf, ← B1.out]; rfl
      go_wp2_with fail
      go_meet
      case rel => obtain rfl := HY.out; exact ⟨A1, M1⟩
    · have hy : y2 = pNumber 0 4294967295 4 y1 := by rw [E2.out, pIf, ← B1.out]; exact if_pos rfl
      have D := A1.out.int K1.out.ty (o := 4) rfl
      rw [← hy] at D
      obtain ⟨z, hz⟩ : ∃ z, z = iv (y2.2 4) := ⟨_, rfl⟩
      rw [← hz] at D
      obtain ⟨D, hz1, hz2⟩ := D
      replace D := hid D
      clear hy hz hcell
      go_wp2_with fail
      refine D.out.mono ?_
      rintro e wa ⟨rfl, A2, m, ⟨u, hu⟩, hf⟩
      have M2 := hid (M1.out.trans m.out); clear m D
      go_wp2_with fail
      go_meet
      case rel => exact ⟨A2, M2⟩
  case rest =>
    clear hcell
    obtain ⟨A2, M2⟩ := hcut
    have D := hid (A2.out.bool K2.out.ty (o := 1) rfl)
    rw [← E3.out] at D
    have hc := A2.out.it.c0
    go_wp2_with fail
    refine D.out.mono ?_
    rintro e wa ⟨rfl, A3, m, ⟨u, hu⟩, hf⟩
    clear D hc
    go_upto_region 6 with fail
    generalize World.setCell wa _ _ = v3 at A3 m ⊢
    clear hu hf
    have M3 := hid (M2.out.trans m.out); clear m
    obtain ⟨b3, hb⟩ : ∃ b, b = bv (y3.2 1) := ⟨_, rfl⟩
    have hcell : v3.cell? ⟨g, 1, none⟩ = some (.bool b3) := by rw [hb]; exact (A3.out.bl.cell 1).trans (K3.out.ty 1 _ rfl).bv
    have B3 := hid hb; clear hb
    go_upto_if 23 with fail
    go_cut [] from 4 (fun wx => Hid (IX wx c r ao cap inp g y4) ∧ Hid (Mods (FG c r g) v0 wx))
    case first =>
      cases b3
      · have HY : Hid (y4 = y3) := by show _ = _; rw [E4.out, pIf, ← B3.out]; rfl
        go_wp2_with fail
        go_meet
        case rel => obtain rfl := HY.out; exact ⟨A3, M3⟩
      · have hy : y4 = num1 4 .u32 5 y3 := by rw [E4.out, pIf, ← B3.out]; exact if_pos rfl
        have D := hid (A3.out.u32 K3.out.ty (o := 5) rfl)
        rw [← hy] at D
        clear hy hcell
        go_wp2_with fail
        refine D.out.mono ?_
        rintro e wa ⟨rfl, A4, m, ⟨u, hu⟩, hf⟩
        have M4 := hid (M3.out.trans m.out); clear m D
        go_wp2_with fail
        go_meet
        case rel => exact ⟨A4, M4⟩
    case rest =>
      clear hcell
      obtain ⟨A4, M4⟩ := hcut
      have D := hid (A4.out.bool K4.out.ty (o := 2) rfl)
      rw [← E5.out] at D
      have hc := A4.out.it.c0
      go_wp2_with fail
      refine D.out.mono ?_
      rintro e wa ⟨rfl, A5, m, ⟨u, hu⟩, hf⟩
      clear D hc
      go_upto_region 9 with fail
      generalize World.setCell wa _ _ = v5 at A5 m ⊢
      clear hu hf
      have M5 := hid (M4.out.trans m.out); clear m
      obtain ⟨b5, hb⟩ : ∃ b, b = bv (y5.2 2) := ⟨_, rfl⟩
      have hcell : v5.cell? ⟨g, 2, none⟩ = some (.bool b5) := by rw [hb]; exact (A5.out.bl.cell 2).trans (K5.out.ty 2 _ rfl).bv
      have B5 := hid hb; clear hb
      go_upto_if 34 with fail
      go_cut [] from 4 (fun wx => Hid (IX wx c r ao cap inp g y6) ∧ Hid (Mods (FG c r g) v0 wx))
      case first =>
        cases b5
        · have HY : Hid (y6 = y5) := by show _ = _; rw [E6.out, pIf, ← B5.out]; rfl
          go_wp2_with fail
          go_meet
          case rel => obtain rfl := HY.out; exact ⟨A5, M5⟩
        · have hy : y6 = num1 4 .u32 6 y5 := by rw [E6.out, pIf, ← B5.out]; exact if_pos rfl
          have D := hid (A5.out.u32 K5.out.ty (o := 6) rfl)
          rw [← hy] at D
          clear hy hcell
          go_wp2_with fail
          refine D.out.mono ?_
          rintro e wa ⟨rfl, A6, m, ⟨u, hu⟩, hf⟩
          have M6 := hid (M5.out.trans m.out); clear m D
          go_wp2_with fail
          go_meet
          case rel => exact ⟨A6, M6⟩
      case rest =>
        clear hcell
        obtain ⟨A6, M6⟩ := hcut
        have D := hid (A6.out.bool K6.out.ty (o := 3) rfl)
        rw [← E7.out] at D
        have hc := A6.out.it.c0
        go_wp2_with fail
        refine D.out.mono ?_
        rintro e wa ⟨rfl, A7, m, ⟨u, hu⟩, hf⟩
        clear D hc
        go_upto_region 12 with fail
        generalize World.setCell wa _ _ = v7 at A7 m ⊢
        clear hu hf
        have M7 := hid (M6.out.trans m.out); clear m
        obtain ⟨b7, hb⟩ : ∃ b, b = bv (y7.2 3) := ⟨_, rfl⟩
        have hcell : v7.cell? ⟨g, 3, none⟩ = some (.bool b7) := by rw [hb]; exact (A7.out.bl.cell 3).trans (K7.out.ty 3 _ rfl).bv
        have B7 := hid hb; clear hb
        go_upto_if 45 with fail
        go_cut [] from 4 (fun wx => Hid (IX wx c r ao cap inp g y8) ∧ Hid (Mods (FG c r g) v0 wx))
        case first =>
          cases b7
          · have HY : Hid (y8 = y7) := by show _ = _; rw [E8.out, pIf, ← B7.out]; rfl
            go_wp2_with fail
            go_meet
            case rel => obtain rfl := HY.out; exact ⟨A7, M7⟩
          · have hy : y8 = num1 8 .u64 7 y7 := by rw [E8.out, pIf, ← B7.out]; exact if_pos rfl
            have D := hid (A7.out.u64 K7.out.ty (o := 7) rfl)
            rw [← hy] at D
            clear hy hcell
            have hc := A7.out.it.c0
            go_wp2_with fail
            refine D.out.mono ?_
            rintro e wa ⟨rfl, A8, m, ⟨u, hu⟩, hf⟩
            have M8 := hid (M7.out.trans m.out); clear m D
            go_wp2_with fail
            go_meet
            case rel => exact ⟨A8, M8⟩
        case rest =>
          clear hcell
          obtain ⟨A8, M8⟩ := hcut
          have D := hid (A8.out.upto K8.out.ty (o := 8) rfl 0 2)
          rw [← E9.out] at D
          go_wp2_with fail
          refine D.out.mono ?_
          rintro e wa ⟨rfl, A9, m, ⟨u, hu⟩, hf⟩
          clear D
          go_upto_region 15 with fail
          generalize World.setCell wa _ _ = v9 at A9 m ⊢
          clear hu hf
          have M9 := hid (M8.out.trans m.out); clear m
          obtain ⟨b9, hb⟩ : ∃ b, b = iv (y9.2 8) := ⟨_, rfl⟩
          have hcell : v9.cell? ⟨g, 8, none⟩ = some (.int .i64 b9) := by rw [hb]; exact (A9.out.bl.cell 8).trans (K9.out.ty 8 _ rfl).iv
          have B9 := hid hb; clear hb
          go_upto_if 57 with fail
          go_cut [] from 4 (fun wx => Hid (IX wx c r ao cap inp g y10) ∧ Hid (Mods (FG c r g) v0 wx))
          case first =>
            by_cases hbb : b9 = 2
            · have hy : y10 = pTime 10 y9 := by rw [E10.out, ← B9.out]; exact if_pos hbb
              have hb2 : (b9 == 2) = true := by simpa using hbb
              have D := hid (A9.out.time K9.out.ty (o := 10) rfl rfl)
              rw [← hy] at D
              clear hy hcell hbb
              go_wp2_with fail
              refine D.out.mono ?_
              rintro e wa ⟨rfl, A10, m, ⟨u, hu⟩, hf, ⟨u2, hu2⟩, hf2⟩
              have M10 := hid (M9.out.trans m.out); clear m D
              go_wp2_with fail
              go_meet
              case rel => exact ⟨A10, M10⟩
            · have HY : Hid (y10 = y9) := by show _ = _; rw [E10.out, ← B9.out]; exact if_neg hbb
              have hb2 : (b9 == 2) = false := by simpa using hbb
              clear hbb
              go_wp2_with fail
              go_meet
              case rel => obtain rfl := HY.out; exact ⟨A9, M9⟩
          case rest =>
            clear hcell
            obtain ⟨A10, M10⟩ := hcut
            have D := hid (A10.out.upto K10.out.ty (o := 9) rfl 0 2)
            rw [← E11.out] at D
            go_wp2_with fail
            refine D.out.mono ?_
            rintro e wa ⟨rfl, A11, m, ⟨u, hu⟩, hf⟩
            clear D
            go_upto_region 18 with fail
            generalize World.setCell wa _ _ = v11 at A11 m ⊢
            clear hu hf
            have M11 := hid (M10.out.trans m.out); clear m
            obtain ⟨b11, hb⟩ : ∃ b, b = iv (y11.2 9) := ⟨_, rfl⟩
            have hcell : v11.cell? ⟨g, 9, none⟩ = some (.int .i64 b11) := by rw [hb]; exact (A11.out.bl.cell 9).trans (K11.out.ty 9 _ rfl).iv
            have B11 := hid hb; clear hb
            go_upto_if 66 with fail
            go_cut [] from 4 (fun wx => Hid (IX wx c r ao cap inp g y12) ∧ Hid (Mods (FG c r g) v0 wx))
            case first =>
              by_cases hbb : b11 = 2
              · have hy : y12 = pTime 12 y11 := by rw [E12.out, ← B11.out]; exact if_pos hbb
                have hb2 : (b11 == 2) = true := by simpa using hbb
                have D := hid (A11.out.time K11.out.ty (o := 12) rfl rfl)
                rw [← hy] at D
                clear hy hcell hbb
                go_wp2_with fail
                refine D.out.mono ?_
                rintro e wa ⟨rfl, A12, m, ⟨u, hu⟩, hf, ⟨u2, hu2⟩, hf2⟩
                have M12 := hid (M11.out.trans m.out); clear m D
                go_wp2_with fail
                go_meet
                case rel => exact ⟨A12, M12⟩
              · have HY : Hid (y12 = y11) := by show _ = _; rw [E12.out, ← B11.out]; exact if_neg hbb
                have hb2 : (b11 == 2) = false := by simpa using hbb
                clear hbb
                go_wp2_with fail
                go_meet
                case rel => obtain rfl := HY.out; exact ⟨A11, M11⟩
            case rest =>
              clear hcell
              obtain ⟨A12, M12⟩ := hcut
              have hlay := K12.out.ty
              have hsome : ∀ j, j < 14 → (y12.2 j).isSome = true := fun j hj => by
                obtain ⟨t, h1, h2, _⟩ := satLay_plain j hj
                exact hlay.isSome h1 h2
              have hz := HZ.out.keep M12.out HNG.out
              have hr := A12.out.bl.range (n := 14) hsome
              have ht : wc.there g2 0 14 := hz.there (o := 0) (n := 14) fun j hj => by
                rw [Nat.zero_add]
                obtain ⟨t, h1, h2, _⟩ := satLay_plain j hj
                exact zS_typed.isSome h1 h2
              have hone := segC_one (n := 14) hlay satLay_plain
              have hload := run_loadAt_mid (P := Try.prog) wc g 0 28 _ _ hr Try.underlying28 rfl (by kernel_rfl)
              obtain ⟨l, hl⟩ : ∃ l, l = segC y12.2 14 := ⟨_, rfl⟩
              have hll : l.length = 14 := by rw [hl]; exact segC_length _ _
              rw [← hl] at hload hone
              have HLD := hid hload; have HONE := hid hone; have HT := hid ht; have HLL := hid hll; have HLAY := hid hlay; have HL := hid hl
              clear hload hone ht hll hlay hl hr hz hsome
              go_upto_region 20 with fail
              have hll := HLL.out
              refine wp_region_list (wpList_val (v := .agg l.toArray) rfl ?_ ?_)
              · show (do pure (Next.value (← Instr.loadAt 28 (.pointer (some ⟨g, 0, none⟩))))).run Try.prog _ = _
                rw [Sem.run_bind, HLD.out]; rfl
              simp only [Act.put, List.setIfInBounds_toArray, List.set_cons_succ, List.set_cons_zero]
              have ht2 : wc.there g2 0 l.toArray.size := by rw [List.size_toArray, hll]; exact HT.out
              refine wpList_storeC (b := g2) (cells := l.toArray) rfl rfl rfl rfl rfl ht2 (by rw [List.size_toArray, hll]; kernel_rfl) HONE.out ?_
              have ht3 : wc.there g2 0 l.length := by rw [hll]; exact HT.out
              have hrr := World.rangeAt_setCells_same wc g2 0 l ht3
              have hms : Mods (fun k => k = g2) wc (wc.setCells g2 0 l) := Mods.setCells _ rfl
              have hI := A12.out.it.keep hms fun k hk e => HNR.out k hk e
              have hM1 : Mods (FI c r) w wc := (HM0.out.mono (fun _ _ h => h.elim) : Mods (FI c r) w v0).step M12.out fun k hk e => by
                rcases e with e | e
                · exact e
                · have := HGE.out; omega
              have hM : Mods (FI c r) w (wc.setCells g2 0 l) := hM1.step hms fun k hk e => by have := HG2.out; omega
              clear hM1
              rw [List.toList_toArray]
              generalize wc.setCells g2 0 l = wy at hrr hI hM ⊢
              have HRR := hid hrr; have HI := hid hI; have HM := hid hM
              clear hrr hI hM hms ht2 ht3 hll
              have hll := HLL.out
              rename_i hK
              simp only [wpList, Exit.then]
              refine hK _ _ (wp_ret ?_)
              show bodyPost Try.prog _ _ .ret _ _
              refine bodyPost_ret (results_cell1 rfl rfl (run_loadVar_mid wy g2 0 28 _ _ HRR.out Try.underlying28 rfl (by rw [hll]; kernel_rfl))) rfl ?_
              exact ⟨⟨by rw [HL.out], HI.out, HM.out⟩, HLAY.out⟩

end Go.Proofs.Ytanknjpcgceccaa
