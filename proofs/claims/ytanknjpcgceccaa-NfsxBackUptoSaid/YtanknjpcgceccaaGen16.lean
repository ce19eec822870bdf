/- nfsx's coder: good, procedure by procedure. (Printed by wip/tools/gen_gen16.py.) -/
import Derived.Test.YtanknjpcgceccaaGen15
namespace Go.Proofs.Ytanknjpcgceccaa
open Go.RowKit

theorem CO.c1 {w : World} {c : Nat} {F : Nat → Prop} {s : St} (h : CO w c F s) : (s.isWr = true ∧ ∃ p, w.cell? ⟨c, 1, none⟩ = some (.pointer (some p))) ∨ (s.isWr = false ∧ w.cell? ⟨c, 1, none⟩ = some (.pointer none)) := by
  cases s with
  | wr bad out => obtain ⟨p, ao, cap, h, _⟩ := h; exact .inl ⟨rfl, _, h.c1⟩
  | rd inp pos err bad => obtain ⟨r, ao, cap, h, _⟩ := h; exact .inr ⟨rfl, h.c1⟩

/-- The lines of a directory that has none. -/
def pEntries0 (x : X) : X := if (x.1.must true).bad then (x.1.must true, x.2) else (((x.1.must true).truth false).2, x.2)
theorem must_true (s : St) : s.must true = s := by cases s <;> simp [St.must]
theorem Ok.entries0 {lay : List Ty} {n : Nat} {x : X} (h : Ok lay n x) : Ok lay (n + 4) (pEntries0 x) := by
  unfold pEntries0
  rw [must_true]
  split
  · exact h.mono (by omega)
  · exact ⟨h.ty, Nat.le_trans (St.size_truth _ _) (Nat.add_le_add_right h.size 4)⟩

set_option maxRecDepth 100000 in
set_option maxHeartbeats 4000000 in
theorem entries0_gen (c : Nat) (F : Nat → Prop) (g : Nat) (y0 : X) (o : Nat) (plus : Bool) (w0 : World) (h : At w0 c F g y0) (hn : y0.1.size + 4 ≤ 20000000) (ho : y0.2 o = some (.slice none 0 0)) (hf : y0.1.bad = false → (y0.1.truth false).1 = false) :
    Calls Try.prog 91 #[.pointer (some ⟨c, 0, none⟩), .pointer (some ⟨g, o, none⟩), .bool plus] w0 (GQ w0 c F g (.tuple #[]) (pEntries0 y0)) := by
  have hm := hid (h.must true)
  have hx : pMust true y0 = y0 := by show (y0.1.must true, y0.2) = y0; rw [must_true]
  rw [hx] at hm
  have hcell : w0.cell? ⟨g, o, none⟩ = some (.slice none 0 0) := (h.bl.cell o).trans ho
  have HO := hid ho; have HF := hid hf; have HN := hid hn
  have HE : Hid (pEntries0 y0 = if y0.1.bad then y0 else ((y0.1.truth false).2, y0.2)) := by show _ = _; unfold pEntries0; rw [must_true]
  clear ho hf h hx hn
  go_enter Try.func91, Try.ntmps91
  go_wp2_with fail
  refine hm.out.mono ?_
  rintro e w1 ⟨rfl, F1, A1, g1⟩
  clear hm hcell
  have hcell : w1.cell? ⟨g, o, none⟩ = some (.slice none 0 0) := (A1.out.bl.cell o).trans HO.out
  have hc2 := A1.out.co.c2
  obtain ⟨bd, hbd⟩ : ∃ b, b = y0.1.bad := ⟨_, rfl⟩
  rw [← hbd] at hc2
  have HB := hid hbd
  clear hbd
  go_wp2_with fail
  go_loopw [6] (fun i wr => i = .int .i64 0 ∧ wr = w1) (fun _ _ => 0)
  case atStart => exact ⟨by go_num, rfl⟩
  case round =>
    obtain ⟨rfl, rfl⟩ := hrel
    cases bd
    · have hm2 : Mods (fun _ => False) wr (wr.alloc (.cells #[.bool false] 4)) := Mods.alloc _ _ _
      have hnew : ¬ F1 wr.heap.size := fun hf => by have := A1.out.co.lt _ hf; omega
      have D := hid (truth_gen c F1 y0.1 wr.heap.size (fun j => #[Value.bool false][j]?) 0 false _ (A1.out.co.keep hm2 fun _ _ h => h) (Blk.new wr _ _) hnew HN.out rfl)
      have hfv := HF.out HB.out.symm
      have HGB := hid (A1.out.bl.keep hm2 fun h => h)
      have HGN := hid (A1.out.bl.lt)
      clear hm2
      go_wp2_with fail
      refine D.out.mono ?_
      rintro e w2 ⟨F2, rfl, q1, q2, q3, q4⟩
      have hg1 : g ≠ wr.heap.size := fun e => by have := HGN.out; omega
      have hgg : GG wr F1 g w2 F2 := GG.other (Mods.alloc (fun _ => False) wr _) (Nat.le_refl _) ⟨q2, q3⟩
      have A2 : Hid (At w2 c F2 g ((y0.1.truth false).2, y0.2)) := ⟨q1, HGB.out.keep q2 (fun e => e.elim A1.out.ap hg1), hgg.apart A1.out.ap HGN.out⟩
      have G2 := hid (g1.out.trans hgg)
      clear D q1 q2 q3 q4 hgg hg1 hc2
      go_wp2
      (try simp only [Exit.inBlock, Exit.then])
      refine bodyPost_ret (results_none rfl _ _ _) rfl ?_
      have hend : pEntries0 y0 = ((y0.1.truth false).2, y0.2) := by rw [HE.out, ← HB.out]; rfl
      rw [hend]
      exact ⟨rfl, F2, A2, G2⟩
    · go_wp2
      go_end0
      have hend : pEntries0 y0 = y0 := by rw [HE.out, ← HB.out]; rfl
      rw [hend]
      exact ⟨rfl, F1, A1, g1⟩

/-- What is told where all is well; of READ, ahead of the data. -/
def pGood : Nat → X → X
  | 1, x => let y := if x.1.isWr then pMust (bv (x.2 1)) x else x; pAttr 2 (y.1, upd y.2 1 (.bool true))
  | 4, x => num1 4 .u32 75 x
  | 5, x => pText 1024 76 x
  | 6, x => pTruth 78 (num1 4 .u32 77 x)
  | 7, x => num1 8 .u64 81 (pNumber 0 2 80 (num1 4 .u32 77 x))
  | 16, x => pTruth 78 (pEntries0 (num1 8 .u64 82 x))
  | 17, x => pTruth 78 (pEntries0 (num1 8 .u64 82 x))
  | 19, x => pFixed [0, 1000000, 27] (pFixed64 1082199040 (pFixed [8192, 8192, 512, 8192, 8192, 512, 8192] x))
  | 20, x => pFixed [32, 27, 1, 1, 0, 1] x
  | 21, x => num1 8 .u64 81 x
  | 101, x => pFixed [1, 1] (pFound x)
  | _, x => x

set_option maxRecDepth 100000 in
set_option maxHeartbeats 4000000 in
theorem good_4 (c : Nat) (F0 : Nat → Prop) (g : Nat) (y0 : X) (dv ev : Value) (w0 : World) (h : At w0 c F0 g y0) (hk : Ok (resLay dv ev) 4000000 y0) :
    Calls Try.prog 73 #[.pointer (some ⟨c, 0, none⟩), .int .i64 4, .pointer (some ⟨g, 0, none⟩)] w0 (fun e w' => GQ w0 c F0 g (.tuple #[]) (pGood 4 y0) e w' ∧ Ok (resLay dv ev) 8000000 (pGood 4 y0)) := by
  have K0 : Hid (Ok (resLay dv ev) 4000000 y0) := hk
  have A0 : Hid (At w0 c F0 g y0) := h
  have G0 : Hid (GG w0 F0 g w0 F0) := GG.refl _ _ _
  clear h hk
  go_enter Try.func73, Try.ntmps73
  obtain ⟨y1, e1⟩ : ∃ z, z = num1 4 .u32 (75) y0 := ⟨_, rfl⟩
  have K1 : Hid (Ok (resLay dv ev) (4000004) y1) := by rw [e1]; exact (K0.out.num1 rfl).mono (by decide)
  have C := A0.out.u32 K0.out (by decide) (o := 75) 123 rfl
  rw [← e1] at C
  have D := hid C; have E1 := hid e1; clear C e1
  go_wp2_with fail
  refine D.out.mono ?_
  rintro e w1 ⟨rfl, F1, A1, g1⟩
  have G1 := hid (G0.out.trans g1.out); clear D g1
  go_wp2
  go_end0
  have hend : pGood 4 y0 = y1 := by
    rw [E1.out]; rfl
  rw [hend]
  exact ⟨⟨rfl, F1, A1, G1⟩, K1.out.mono (by decide)⟩

set_option maxRecDepth 100000 in
set_option maxHeartbeats 4000000 in
theorem good_5 (c : Nat) (F0 : Nat → Prop) (g : Nat) (y0 : X) (dv ev : Value) (w0 : World) (h : At w0 c F0 g y0) (hk : Ok (resLay dv ev) 4000000 y0) :
    Calls Try.prog 73 #[.pointer (some ⟨c, 0, none⟩), .int .i64 5, .pointer (some ⟨g, 0, none⟩)] w0 (fun e w' => GQ w0 c F0 g (.tuple #[]) (pGood 5 y0) e w' ∧ Ok (resLay dv ev) 8000000 (pGood 5 y0)) := by
  have K0 : Hid (Ok (resLay dv ev) 4000000 y0) := hk
  have A0 : Hid (At w0 c F0 g y0) := h
  have G0 : Hid (GG w0 F0 g w0 F0) := GG.refl _ _ _
  clear h hk
  go_enter Try.func73, Try.ntmps73
  obtain ⟨y1, e1⟩ : ∃ z, z = pText 1024 (76) y0 := ⟨_, rfl⟩
  have K1 : Hid (Ok (resLay dv ev) (6000008) y1) := by rw [e1]; exact (K0.out.text (most := 1024) (by decide) rfl).mono (by decide)
  have C := A0.out.text K0.out (by decide) (o := 76) (most := 1024) rfl
  rw [← e1] at C
  have D := hid C; have E1 := hid e1; clear C e1
  go_wp2_with fail
  refine D.out.mono ?_
  rintro e w1 ⟨rfl, F1, A1, g1⟩
  have G1 := hid (G0.out.trans g1.out); clear D g1
  go_wp2
  go_end0
  have hend : pGood 5 y0 = y1 := by
    rw [E1.out]; rfl
  rw [hend]
  exact ⟨⟨rfl, F1, A1, G1⟩, K1.out.mono (by decide)⟩

set_option maxRecDepth 100000 in
set_option maxHeartbeats 4000000 in
theorem good_7 (c : Nat) (F0 : Nat → Prop) (g : Nat) (y0 : X) (dv ev : Value) (w0 : World) (h : At w0 c F0 g y0) (hk : Ok (resLay dv ev) 4000000 y0) :
    Calls Try.prog 73 #[.pointer (some ⟨c, 0, none⟩), .int .i64 7, .pointer (some ⟨g, 0, none⟩)] w0 (fun e w' => GQ w0 c F0 g (.tuple #[]) (pGood 7 y0) e w' ∧ Ok (resLay dv ev) 8000000 (pGood 7 y0)) := by
  have K0 : Hid (Ok (resLay dv ev) 4000000 y0) := hk
  have A0 : Hid (At w0 c F0 g y0) := h
  have G0 : Hid (GG w0 F0 g w0 F0) := GG.refl _ _ _
  clear h hk
  go_enter Try.func73, Try.ntmps73
  obtain ⟨y1, e1⟩ : ∃ z, z = num1 4 .u32 (77) y0 := ⟨_, rfl⟩
  have K1 : Hid (Ok (resLay dv ev) (4000004) y1) := by rw [e1]; exact (K0.out.num1 rfl).mono (by decide)
  have C := A0.out.u32 K0.out (by decide) (o := 77) 123 rfl
  rw [← e1] at C
  have D := hid C; have E1 := hid e1; clear C e1
  go_wp2_with fail
  refine D.out.mono ?_
  rintro e w1 ⟨rfl, F1, A1, g1⟩
  have G1 := hid (G0.out.trans g1.out); clear D g1
  obtain ⟨y2, e2⟩ : ∃ z, z = pNumber 0 2 (80) y1 := ⟨_, rfl⟩
  have K2 : Hid (Ok (resLay dv ev) (4000008) y2) := by rw [e2]; exact (K1.out.number rfl).mono (by decide)
  have C := A1.out.number K1.out (by decide) (o := 80) (lo := 0) (hi := 2) rfl
  rw [← e2] at C
  have D := hid C; have E2 := hid e2; clear C e2
  go_wp2_with fail
  refine D.out.mono ?_
  rintro e w2 ⟨rfl, F2, A2, g2⟩
  have G2 := hid (G1.out.trans g2.out); clear D g2
  obtain ⟨y3, e3⟩ : ∃ z, z = num1 8 .u64 (81) y2 := ⟨_, rfl⟩
  have K3 : Hid (Ok (resLay dv ev) (4000016) y3) := by rw [e3]; exact (K2.out.num8 rfl).mono (by decide)
  have C := A2.out.u64 K2.out (by decide) (o := 81) 125 rfl
  rw [← e3] at C
  have D := hid C; have E3 := hid e3; clear C e3
  go_wp2_with fail
  refine D.out.mono ?_
  rintro e w3 ⟨rfl, F3, A3, g3⟩
  have G3 := hid (G2.out.trans g3.out); clear D g3
  go_wp2
  go_end0
  have hend : pGood 7 y0 = y3 := by
    rw [E3.out, E2.out, E1.out]; rfl
  rw [hend]
  exact ⟨⟨rfl, F3, A3, G3⟩, K3.out.mono (by decide)⟩

set_option maxRecDepth 100000 in
set_option maxHeartbeats 4000000 in
theorem good_19 (c : Nat) (F0 : Nat → Prop) (g : Nat) (y0 : X) (dv ev : Value) (w0 : World) (h : At w0 c F0 g y0) (hk : Ok (resLay dv ev) 4000000 y0) :
    Calls Try.prog 73 #[.pointer (some ⟨c, 0, none⟩), .int .i64 19, .pointer (some ⟨g, 0, none⟩)] w0 (fun e w' => GQ w0 c F0 g (.tuple #[]) (pGood 19 y0) e w' ∧ Ok (resLay dv ev) 8000000 (pGood 19 y0)) := by
  have K0 : Hid (Ok (resLay dv ev) 4000000 y0) := hk
  have A0 : Hid (At w0 c F0 g y0) := h
  have G0 : Hid (GG w0 F0 g w0 F0) := GG.refl _ _ _
  clear h hk
  go_enter Try.func73, Try.ntmps73
  obtain ⟨y1, e1⟩ : ∃ z, z = pFixed [8192, 8192, 512, 8192, 8192, 512, 8192] y0 := ⟨_, rfl⟩
  have K1 : Hid (Ok (resLay dv ev) (4000028) y1) := by rw [e1]; exact (K0.out.fixed [8192, 8192, 512, 8192, 8192, 512, 8192]).mono (by decide)
  have C := A0.out.fixed K0.out [8192, 8192, 512, 8192, 8192, 512, 8192] 23 (by decide) (by decide) (by decide) (by decide)
  rw [← e1] at C
  have D := hid C; have E1 := hid e1; clear C e1
  go_wp2_with fail
  refine D.out.mono ?_
  rintro e w1 ⟨rfl, F1, A1, g1⟩
  have G1 := hid (G0.out.trans g1.out); clear D g1
  obtain ⟨y2, e2⟩ : ∃ z, z = pFixed64 1082199040 y1 := ⟨_, rfl⟩
  have K2 : Hid (Ok (resLay dv ev) (4000036) y2) := by rw [e2]; exact (K1.out.fixed64 1082199040).mono (by decide)
  have C := fixed64_gen c F1 g y1 1082199040 w1 A1.out (by have := K1.out.size; omega) (by decide)
  rw [← e2] at C
  have D := hid C; have E2 := hid e2; clear C e2
  go_wp2_with fail
  refine D.out.mono ?_
  rintro e w2 ⟨rfl, F2, A2, g2⟩
  have G2 := hid (G1.out.trans g2.out); clear D g2
  obtain ⟨y3, e3⟩ : ∃ z, z = pFixed [0, 1000000, 27] y2 := ⟨_, rfl⟩
  have K3 : Hid (Ok (resLay dv ev) (4000048) y3) := by rw [e3]; exact (K2.out.fixed [0, 1000000, 27]).mono (by decide)
  have C := A2.out.fixed K2.out [0, 1000000, 27] 23 (by decide) (by decide) (by decide) (by decide)
  rw [← e3] at C
  have D := hid C; have E3 := hid e3; clear C e3
  go_wp2_with fail
  refine D.out.mono ?_
  rintro e w3 ⟨rfl, F3, A3, g3⟩
  have G3 := hid (G2.out.trans g3.out); clear D g3
  go_wp2
  go_end0
  have hend : pGood 19 y0 = y3 := by
    rw [E3.out, E2.out, E1.out]; rfl
  rw [hend]
  exact ⟨⟨rfl, F3, A3, G3⟩, K3.out.mono (by decide)⟩

set_option maxRecDepth 100000 in
set_option maxHeartbeats 4000000 in
theorem good_20 (c : Nat) (F0 : Nat → Prop) (g : Nat) (y0 : X) (dv ev : Value) (w0 : World) (h : At w0 c F0 g y0) (hk : Ok (resLay dv ev) 4000000 y0) :
    Calls Try.prog 73 #[.pointer (some ⟨c, 0, none⟩), .int .i64 20, .pointer (some ⟨g, 0, none⟩)] w0 (fun e w' => GQ w0 c F0 g (.tuple #[]) (pGood 20 y0) e w' ∧ Ok (resLay dv ev) 8000000 (pGood 20 y0)) := by
  have K0 : Hid (Ok (resLay dv ev) 4000000 y0) := hk
  have A0 : Hid (At w0 c F0 g y0) := h
  have G0 : Hid (GG w0 F0 g w0 F0) := GG.refl _ _ _
  clear h hk
  go_enter Try.func73, Try.ntmps73
  obtain ⟨y1, e1⟩ : ∃ z, z = pFixed [32, 27, 1, 1, 0, 1] y0 := ⟨_, rfl⟩
  have K1 : Hid (Ok (resLay dv ev) (4000024) y1) := by rw [e1]; exact (K0.out.fixed [32, 27, 1, 1, 0, 1]).mono (by decide)
  have C := A0.out.fixed K0.out [32, 27, 1, 1, 0, 1] 23 (by decide) (by decide) (by decide) (by decide)
  rw [← e1] at C
  have D := hid C; have E1 := hid e1; clear C e1
  go_wp2_with fail
  refine D.out.mono ?_
  rintro e w1 ⟨rfl, F1, A1, g1⟩
  have G1 := hid (G0.out.trans g1.out); clear D g1
  go_wp2
  go_end0
  have hend : pGood 20 y0 = y1 := by
    rw [E1.out]; rfl
  rw [hend]
  exact ⟨⟨rfl, F1, A1, G1⟩, K1.out.mono (by decide)⟩

set_option maxRecDepth 100000 in
set_option maxHeartbeats 4000000 in
theorem good_21 (c : Nat) (F0 : Nat → Prop) (g : Nat) (y0 : X) (dv ev : Value) (w0 : World) (h : At w0 c F0 g y0) (hk : Ok (resLay dv ev) 4000000 y0) :
    Calls Try.prog 73 #[.pointer (some ⟨c, 0, none⟩), .int .i64 21, .pointer (some ⟨g, 0, none⟩)] w0 (fun e w' => GQ w0 c F0 g (.tuple #[]) (pGood 21 y0) e w' ∧ Ok (resLay dv ev) 8000000 (pGood 21 y0)) := by
  have K0 : Hid (Ok (resLay dv ev) 4000000 y0) := hk
  have A0 : Hid (At w0 c F0 g y0) := h
  have G0 : Hid (GG w0 F0 g w0 F0) := GG.refl _ _ _
  clear h hk
  go_enter Try.func73, Try.ntmps73
  obtain ⟨y1, e1⟩ : ∃ z, z = num1 8 .u64 (81) y0 := ⟨_, rfl⟩
  have K1 : Hid (Ok (resLay dv ev) (4000008) y1) := by rw [e1]; exact (K0.out.num8 rfl).mono (by decide)
  have C := A0.out.u64 K0.out (by decide) (o := 81) 125 rfl
  rw [← e1] at C
  have D := hid C; have E1 := hid e1; clear C e1
  go_wp2_with fail
  refine D.out.mono ?_
  rintro e w1 ⟨rfl, F1, A1, g1⟩
  have G1 := hid (G0.out.trans g1.out); clear D g1
  go_wp2
  go_end0
  have hend : pGood 21 y0 = y1 := by
    rw [E1.out]; rfl
  rw [hend]
  exact ⟨⟨rfl, F1, A1, G1⟩, K1.out.mono (by decide)⟩

set_option maxRecDepth 100000 in
set_option maxHeartbeats 4000000 in
theorem good_101 (c : Nat) (F0 : Nat → Prop) (g : Nat) (y0 : X) (dv ev : Value) (w0 : World) (h : At w0 c F0 g y0) (hk : Ok (resLay dv ev) 4000000 y0) :
    Calls Try.prog 73 #[.pointer (some ⟨c, 0, none⟩), .int .i64 101, .pointer (some ⟨g, 0, none⟩)] w0 (fun e w' => GQ w0 c F0 g (.tuple #[]) (pGood 101 y0) e w' ∧ Ok (resLay dv ev) 8000000 (pGood 101 y0)) := by
  have K0 : Hid (Ok (resLay dv ev) 4000000 y0) := hk
  have A0 : Hid (At w0 c F0 g y0) := h
  have G0 : Hid (GG w0 F0 g w0 F0) := GG.refl _ _ _
  clear h hk
  go_enter Try.func73, Try.ntmps73
  obtain ⟨y1, e1⟩ : ∃ z, z = pFound y0 := ⟨_, rfl⟩
  have K1 : Hid (Ok (resLay dv ev) (6000008) y1) := by rw [e1]; exact (Ok.found K0.out).mono (by decide)
  have C := found_gen c F0 g y0 (resLay dv ev) (4000000) w0 A0.out K0.out (by decide) rfl rfl
  rw [← e1] at C
  have D := hid C; have E1 := hid e1; clear C e1
  go_wp2_with fail
  refine D.out.mono ?_
  rintro e w1 ⟨rfl, F1, A1, g1⟩
  have G1 := hid (G0.out.trans g1.out); clear D g1
  obtain ⟨y2, e2⟩ : ∃ z, z = pFixed [1, 1] y1 := ⟨_, rfl⟩
  have K2 : Hid (Ok (resLay dv ev) (6000016) y2) := by rw [e2]; exact (K1.out.fixed [1, 1]).mono (by decide)
  have C := A1.out.fixed K1.out [1, 1] 23 (by decide) (by decide) (by decide) (by decide)
  rw [← e2] at C
  have D := hid C; have E2 := hid e2; clear C e2
  go_wp2_with fail
  refine D.out.mono ?_
  rintro e w2 ⟨rfl, F2, A2, g2⟩
  have G2 := hid (G1.out.trans g2.out); clear D g2
  go_wp2
  go_end0
  have hend : pGood 101 y0 = y2 := by
    rw [E2.out, E1.out]; rfl
  rw [hend]
  exact ⟨⟨rfl, F2, A2, G2⟩, K2.out.mono (by decide)⟩

set_option maxRecDepth 100000 in
set_option maxHeartbeats 4000000 in
theorem good_2 (c : Nat) (F0 : Nat → Prop) (g : Nat) (y0 : X) (dv ev : Value) (w0 : World) (h : At w0 c F0 g y0) (hk : Ok (resLay dv ev) 4000000 y0) :
    Calls Try.prog 73 #[.pointer (some ⟨c, 0, none⟩), .int .i64 2, .pointer (some ⟨g, 0, none⟩)] w0 (fun e w' => GQ w0 c F0 g (.tuple #[]) (pGood 2 y0) e w' ∧ Ok (resLay dv ev) 8000000 (pGood 2 y0)) := by
  have K0 : Hid (Ok (resLay dv ev) 4000000 y0) := hk
  have A0 : Hid (At w0 c F0 g y0) := h
  have G0 : Hid (GG w0 F0 g w0 F0) := GG.refl _ _ _
  clear h hk
  go_enter Try.func73, Try.ntmps73
  go_wp2
  go_end0
  have hend : pGood 2 y0 = y0 := by
    rfl
  rw [hend]
  exact ⟨⟨rfl, F0, A0, G0⟩, K0.out.mono (by decide)⟩

set_option maxRecDepth 100000 in
set_option maxHeartbeats 4000000 in
theorem good_3 (c : Nat) (F0 : Nat → Prop) (g : Nat) (y0 : X) (dv ev : Value) (w0 : World) (h : At w0 c F0 g y0) (hk : Ok (resLay dv ev) 4000000 y0) :
    Calls Try.prog 73 #[.pointer (some ⟨c, 0, none⟩), .int .i64 3, .pointer (some ⟨g, 0, none⟩)] w0 (fun e w' => GQ w0 c F0 g (.tuple #[]) (pGood 3 y0) e w' ∧ Ok (resLay dv ev) 8000000 (pGood 3 y0)) := by
  have K0 : Hid (Ok (resLay dv ev) 4000000 y0) := hk
  have A0 : Hid (At w0 c F0 g y0) := h
  have G0 : Hid (GG w0 F0 g w0 F0) := GG.refl _ _ _
  clear h hk
  go_enter Try.func73, Try.ntmps73
  go_wp2
  go_end0
  have hend : pGood 3 y0 = y0 := by
    rfl
  rw [hend]
  exact ⟨⟨rfl, F0, A0, G0⟩, K0.out.mono (by decide)⟩

set_option maxRecDepth 100000 in
set_option maxHeartbeats 4000000 in
theorem good_8 (c : Nat) (F0 : Nat → Prop) (g : Nat) (y0 : X) (dv ev : Value) (w0 : World) (h : At w0 c F0 g y0) (hk : Ok (resLay dv ev) 4000000 y0) :
    Calls Try.prog 73 #[.pointer (some ⟨c, 0, none⟩), .int .i64 8, .pointer (some ⟨g, 0, none⟩)] w0 (fun e w' => GQ w0 c F0 g (.tuple #[]) (pGood 8 y0) e w' ∧ Ok (resLay dv ev) 8000000 (pGood 8 y0)) := by
  have K0 : Hid (Ok (resLay dv ev) 4000000 y0) := hk
  have A0 : Hid (At w0 c F0 g y0) := h
  have G0 : Hid (GG w0 F0 g w0 F0) := GG.refl _ _ _
  clear h hk
  go_enter Try.func73, Try.ntmps73
  go_wp2
  go_end0
  have hend : pGood 8 y0 = y0 := by
    rfl
  rw [hend]
  exact ⟨⟨rfl, F0, A0, G0⟩, K0.out.mono (by decide)⟩

set_option maxRecDepth 100000 in
set_option maxHeartbeats 4000000 in
theorem good_9 (c : Nat) (F0 : Nat → Prop) (g : Nat) (y0 : X) (dv ev : Value) (w0 : World) (h : At w0 c F0 g y0) (hk : Ok (resLay dv ev) 4000000 y0) :
    Calls Try.prog 73 #[.pointer (some ⟨c, 0, none⟩), .int .i64 9, .pointer (some ⟨g, 0, none⟩)] w0 (fun e w' => GQ w0 c F0 g (.tuple #[]) (pGood 9 y0) e w' ∧ Ok (resLay dv ev) 8000000 (pGood 9 y0)) := by
  have K0 : Hid (Ok (resLay dv ev) 4000000 y0) := hk
  have A0 : Hid (At w0 c F0 g y0) := h
  have G0 : Hid (GG w0 F0 g w0 F0) := GG.refl _ _ _
  clear h hk
  go_enter Try.func73, Try.ntmps73
  go_wp2
  go_end0
  have hend : pGood 9 y0 = y0 := by
    rfl
  rw [hend]
  exact ⟨⟨rfl, F0, A0, G0⟩, K0.out.mono (by decide)⟩

set_option maxRecDepth 100000 in
set_option maxHeartbeats 4000000 in
theorem good_10 (c : Nat) (F0 : Nat → Prop) (g : Nat) (y0 : X) (dv ev : Value) (w0 : World) (h : At w0 c F0 g y0) (hk : Ok (resLay dv ev) 4000000 y0) :
    Calls Try.prog 73 #[.pointer (some ⟨c, 0, none⟩), .int .i64 10, .pointer (some ⟨g, 0, none⟩)] w0 (fun e w' => GQ w0 c F0 g (.tuple #[]) (pGood 10 y0) e w' ∧ Ok (resLay dv ev) 8000000 (pGood 10 y0)) := by
  have K0 : Hid (Ok (resLay dv ev) 4000000 y0) := hk
  have A0 : Hid (At w0 c F0 g y0) := h
  have G0 : Hid (GG w0 F0 g w0 F0) := GG.refl _ _ _
  clear h hk
  go_enter Try.func73, Try.ntmps73
  go_wp2
  go_end0
  have hend : pGood 10 y0 = y0 := by
    rfl
  rw [hend]
  exact ⟨⟨rfl, F0, A0, G0⟩, K0.out.mono (by decide)⟩

set_option maxRecDepth 100000 in
set_option maxHeartbeats 4000000 in
theorem good_11 (c : Nat) (F0 : Nat → Prop) (g : Nat) (y0 : X) (dv ev : Value) (w0 : World) (h : At w0 c F0 g y0) (hk : Ok (resLay dv ev) 4000000 y0) :
    Calls Try.prog 73 #[.pointer (some ⟨c, 0, none⟩), .int .i64 11, .pointer (some ⟨g, 0, none⟩)] w0 (fun e w' => GQ w0 c F0 g (.tuple #[]) (pGood 11 y0) e w' ∧ Ok (resLay dv ev) 8000000 (pGood 11 y0)) := by
  have K0 : Hid (Ok (resLay dv ev) 4000000 y0) := hk
  have A0 : Hid (At w0 c F0 g y0) := h
  have G0 : Hid (GG w0 F0 g w0 F0) := GG.refl _ _ _
  clear h hk
  go_enter Try.func73, Try.ntmps73
  go_wp2
  go_end0
  have hend : pGood 11 y0 = y0 := by
    rfl
  rw [hend]
  exact ⟨⟨rfl, F0, A0, G0⟩, K0.out.mono (by decide)⟩

set_option maxRecDepth 100000 in
set_option maxHeartbeats 4000000 in
theorem good_12 (c : Nat) (F0 : Nat → Prop) (g : Nat) (y0 : X) (dv ev : Value) (w0 : World) (h : At w0 c F0 g y0) (hk : Ok (resLay dv ev) 4000000 y0) :
    Calls Try.prog 73 #[.pointer (some ⟨c, 0, none⟩), .int .i64 12, .pointer (some ⟨g, 0, none⟩)] w0 (fun e w' => GQ w0 c F0 g (.tuple #[]) (pGood 12 y0) e w' ∧ Ok (resLay dv ev) 8000000 (pGood 12 y0)) := by
  have K0 : Hid (Ok (resLay dv ev) 4000000 y0) := hk
  have A0 : Hid (At w0 c F0 g y0) := h
  have G0 : Hid (GG w0 F0 g w0 F0) := GG.refl _ _ _
  clear h hk
  go_enter Try.func73, Try.ntmps73
  go_wp2
  go_end0
  have hend : pGood 12 y0 = y0 := by
    rfl
  rw [hend]
  exact ⟨⟨rfl, F0, A0, G0⟩, K0.out.mono (by decide)⟩

set_option maxRecDepth 100000 in
set_option maxHeartbeats 4000000 in
theorem good_13 (c : Nat) (F0 : Nat → Prop) (g : Nat) (y0 : X) (dv ev : Value) (w0 : World) (h : At w0 c F0 g y0) (hk : Ok (resLay dv ev) 4000000 y0) :
    Calls Try.prog 73 #[.pointer (some ⟨c, 0, none⟩), .int .i64 13, .pointer (some ⟨g, 0, none⟩)] w0 (fun e w' => GQ w0 c F0 g (.tuple #[]) (pGood 13 y0) e w' ∧ Ok (resLay dv ev) 8000000 (pGood 13 y0)) := by
  have K0 : Hid (Ok (resLay dv ev) 4000000 y0) := hk
  have A0 : Hid (At w0 c F0 g y0) := h
  have G0 : Hid (GG w0 F0 g w0 F0) := GG.refl _ _ _
  clear h hk
  go_enter Try.func73, Try.ntmps73
  go_wp2
  go_end0
  have hend : pGood 13 y0 = y0 := by
    rfl
  rw [hend]
  exact ⟨⟨rfl, F0, A0, G0⟩, K0.out.mono (by decide)⟩

set_option maxRecDepth 100000 in
set_option maxHeartbeats 4000000 in
theorem good_14 (c : Nat) (F0 : Nat → Prop) (g : Nat) (y0 : X) (dv ev : Value) (w0 : World) (h : At w0 c F0 g y0) (hk : Ok (resLay dv ev) 4000000 y0) :
    Calls Try.prog 73 #[.pointer (some ⟨c, 0, none⟩), .int .i64 14, .pointer (some ⟨g, 0, none⟩)] w0 (fun e w' => GQ w0 c F0 g (.tuple #[]) (pGood 14 y0) e w' ∧ Ok (resLay dv ev) 8000000 (pGood 14 y0)) := by
  have K0 : Hid (Ok (resLay dv ev) 4000000 y0) := hk
  have A0 : Hid (At w0 c F0 g y0) := h
  have G0 : Hid (GG w0 F0 g w0 F0) := GG.refl _ _ _
  clear h hk
  go_enter Try.func73, Try.ntmps73
  go_wp2
  go_end0
  have hend : pGood 14 y0 = y0 := by
    rfl
  rw [hend]
  exact ⟨⟨rfl, F0, A0, G0⟩, K0.out.mono (by decide)⟩

set_option maxRecDepth 100000 in
set_option maxHeartbeats 4000000 in
theorem good_15 (c : Nat) (F0 : Nat → Prop) (g : Nat) (y0 : X) (dv ev : Value) (w0 : World) (h : At w0 c F0 g y0) (hk : Ok (resLay dv ev) 4000000 y0) :
    Calls Try.prog 73 #[.pointer (some ⟨c, 0, none⟩), .int .i64 15, .pointer (some ⟨g, 0, none⟩)] w0 (fun e w' => GQ w0 c F0 g (.tuple #[]) (pGood 15 y0) e w' ∧ Ok (resLay dv ev) 8000000 (pGood 15 y0)) := by
  have K0 : Hid (Ok (resLay dv ev) 4000000 y0) := hk
  have A0 : Hid (At w0 c F0 g y0) := h
  have G0 : Hid (GG w0 F0 g w0 F0) := GG.refl _ _ _
  clear h hk
  go_enter Try.func73, Try.ntmps73
  go_wp2
  go_end0
  have hend : pGood 15 y0 = y0 := by
    rfl
  rw [hend]
  exact ⟨⟨rfl, F0, A0, G0⟩, K0.out.mono (by decide)⟩

end Go.Proofs.Ytanknjpcgceccaa
