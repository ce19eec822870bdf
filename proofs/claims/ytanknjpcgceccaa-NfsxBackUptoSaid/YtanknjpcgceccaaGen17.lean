/- nfsx's coder: good of GETATTR, of READ, of READDIR where no line is. -/
import Derived.Test.YtanknjpcgceccaaGen16
namespace Go.Proofs.Ytanknjpcgceccaa
open Go.RowKit

/-- A store into a cell of the struct. -/
theorem At.put {w : World} {c : Nat} {F : Nat → Prop} {g : Nat} {x : X} (h : At w c F g x) {o : Nat} {u : Value} (ho : x.2 o = some u) (v : Value) : At (w.setCell ⟨g, o, none⟩ v) c F g (x.1, upd x.2 o v) ∧ GG w F g (w.setCell ⟨g, o, none⟩ v) F := by
  have hms : Mods (fun k => k = g) w (w.setCell ⟨g, o, none⟩ v) := Mods.setCell (F := fun k => k = g) (a := ⟨g, o, none⟩) rfl _
  exact ⟨⟨h.co.keep hms (fun k hk e => h.ap (e ▸ hk)), h.bl.set ho v, h.ap⟩, GG.mine hms⟩

set_option maxRecDepth 100000 in
set_option maxHeartbeats 4000000 in
theorem good_1 (c : Nat) (F0 : Nat → Prop) (g : Nat) (y0 : X) (dv ev : Value) (w0 : World) (h : At w0 c F0 g y0) (hk : Ok (resLay dv ev) 4000000 y0) :
    Calls Try.prog 73 #[.pointer (some ⟨c, 0, none⟩), .int .i64 1, .pointer (some ⟨g, 0, none⟩)] w0 (fun e w' => GQ w0 c F0 g (.tuple #[]) (pGood 1 y0) e w' ∧ Ok (resLay dv ev) 8000000 (pGood 1 y0)) := by
  have hb1 := (hk.ty 1 _ rfl).bv
  have hcell := (h.bl.cell 1).trans hb1
  have hfree := h.bl.free 1
  obtain ⟨b, hb⟩ : ∃ b, b = bv (y0.2 1) := ⟨_, rfl⟩
  rw [← hb] at hcell hb1
  obtain ⟨y1, e1⟩ : ∃ z, z = if y0.1.isWr then pMust b y0 else y0 := ⟨_, rfl⟩
  have K1 : Hid (Ok (resLay dv ev) 4000000 y1) := by
    show Ok _ _ _; rw [e1]; split
    · exact hk.must b
    · exact hk
  have h11 : y1.2 1 = some (.bool b) := by
    rw [e1]; split
    · exact hb1
    · exact hb1
  obtain ⟨y2, e2⟩ : ∃ z : X, z = (y1.1, upd y1.2 1 (.bool true)) := ⟨_, rfl⟩
  have K2 : Hid (Ok (resLay dv ev) 4000000 y2) := by rw [e2]; exact ⟨K1.out.ty.upd' (o := 1) rfl ⟨true, rfl⟩, K1.out.size⟩
  have HEND : Hid (pGood 1 y0 = pAttr 2 y2) := by show pGood 1 y0 = pAttr 2 y2; rw [e2, e1, hb]; rfl
  have A0 := hid h; have E1 := hid e1; have E2 := hid e2; have H11 := hid h11
  rcases h.co.c1 with ⟨hw, p, hc1⟩ | ⟨hw, hc1⟩
  · have D := hid (h.must b)
    have hy : y1 = pMust b y0 := by rw [e1, hw]; rfl
    rw [← hy] at D
    clear h hk hb hb1 hw hy e1 e2 h11
    go_enter Try.func73, Try.ntmps73
    go_wp2_with fail
    refine D.out.mono ?_
    rintro e w1 ⟨rfl, F1, A1, g1⟩
    clear D hcell hfree hc1
    have hcell := (A1.out.bl.cell 1).trans H11.out
    have hfree := A1.out.bl.free 1
    have hp := A1.out.put H11.out (.bool true)
    rw [← E2.out] at hp
    have HP := hid hp
    clear hp
    go_upto_region 16 with fail
    generalize w1.setCell ⟨g, 1, none⟩ (.bool true) = w2 at HP ⊢
    have D := hid (attr_gen c F1 g y2 (resLay dv ev) 4000000 2 w2 HP.out.1 K2.out (by decide) (post_attr (sub_obj dv ev)))
    clear hcell hfree
    go_wp2_with fail
    refine D.out.mono ?_
    rintro e w3 ⟨⟨rfl, F3, A3, g3⟩, k3⟩
    have G3 := hid (g1.out.trans (HP.out.2.trans g3.out)); have K3 := hid k3
    clear D g3 k3
    go_wp2
    go_end0
    rw [HEND.out]
    exact ⟨⟨rfl, F3, A3, G3⟩, K3.out.mono (by decide)⟩
  · have hy : y1 = y0 := by rw [e1, hw]; rfl
    have hp := h.put (o := 1) hb1 (.bool true)
    have hy2 : y2 = (y0.1, upd y0.2 1 (.bool true)) := by rw [e2, hy]
    rw [← hy2] at hp
    have HP := hid hp
    clear h hk hb hb1 hw hy e1 e2 h11 hp hy2
    go_enter Try.func73, Try.ntmps73
    go_upto_region 16 with fail
    generalize w0.setCell ⟨g, 1, none⟩ (.bool true) = w2 at HP ⊢
    have D := hid (attr_gen c F0 g y2 (resLay dv ev) 4000000 2 w2 HP.out.1 K2.out (by decide) (post_attr (sub_obj dv ev)))
    clear hcell hfree hc1
    go_wp2_with fail
    refine D.out.mono ?_
    rintro e w3 ⟨⟨rfl, F3, A3, g3⟩, k3⟩
    have G3 := hid (HP.out.2.trans g3.out); have K3 := hid k3
    clear D g3 k3
    go_wp2
    go_end0
    rw [HEND.out]
    exact ⟨⟨rfl, F3, A3, G3⟩, K3.out.mono (by decide)⟩

set_option maxRecDepth 100000 in
set_option maxHeartbeats 4000000 in
theorem good_6 (c : Nat) (F0 : Nat → Prop) (g : Nat) (y0 : X) (xo : Option Addr) (xc : Nat) (ds : List UInt8) (dv ev : Value) (hdv : dv = .slice xo ds.length xc) (w0 : World) (h : At w0 c F0 g y0) (hk : Ok (resLay dv ev) 4000000 y0) (hs : SlB w0 xo xc ds) (hxb : ∀ k, rb xo ds.length k → k < w0.heap.size ∧ ¬ F0 k ∧ k ≠ g) (hlen : ds.length ≤ 2000000) :
    Calls Try.prog 73 #[.pointer (some ⟨c, 0, none⟩), .int .i64 6, .pointer (some ⟨g, 0, none⟩)] w0 (fun e w' => RowP w0 c F0 g 79 xo ds.length ((pGood 6 y0).1.row 8192 ds).2 ((pGood 6 y0).1.row 8192 ds).1 (pGood 6 y0).2 e w' ∧ Ok (resLay dv ev) 8000000 (pGood 6 y0)) := by
  have K0 : Hid (Ok (resLay dv ev) 4000000 y0) := hk
  have A0 : Hid (At w0 c F0 g y0) := h
  have G0 : Hid (GG w0 F0 g w0 F0) := GG.refl _ _ _
  have HS := hid hs; have HX := hid hxb; have HDV := hid hdv; have HLN := hid hlen
  clear h hk hs hxb hdv hlen
  go_enter Try.func73, Try.ntmps73
  obtain ⟨y1, e1⟩ : ∃ z, z = num1 4 .u32 77 y0 := ⟨_, rfl⟩
  have K1 : Hid (Ok (resLay dv ev) 4000004 y1) := by rw [e1]; exact (K0.out.num1 rfl).mono (by decide)
  have D := hid (A0.out.u32 K0.out (by decide) (o := 77) 123 rfl)
  rw [← e1] at D
  have E1 := hid e1; clear e1
  go_wp2_with fail
  refine D.out.mono ?_
  rintro e w1 ⟨rfl, F1, A1, g1⟩
  have G1 := hid (G0.out.trans g1.out); clear D g1
  obtain ⟨y2, e2⟩ : ∃ z, z = pTruth 78 y1 := ⟨_, rfl⟩
  have K2 : Hid (Ok (resLay dv ev) 4000008 y2) := by rw [e2]; exact (K1.out.truth rfl).mono (by decide)
  have D := hid (A1.out.truth K1.out (by decide) (o := 78) rfl)
  rw [← e2] at D
  have E2 := hid e2; clear e2
  go_wp2_with fail
  refine D.out.mono ?_
  rintro e w2 ⟨rfl, F2, A2, g2⟩
  have G2 := hid (G1.out.trans g2.out); clear D g2
  have hend : pGood 6 y0 = y2 := by rw [E2.out, E1.out]; rfl
  have hdata : y2.2 79 = some (.slice xo ds.length xc) := by
    have h1 : y2.2 79 = some dv := K2.out.ty 79 _ rfl
    rw [h1, HDV.out]
  have hs4 : SlB w2 xo xc ds := HS.out.keep G2.out.mods fun k hk hf => hf.elim (HX.out k hk).2.1 (HX.out k hk).2.2
  have hsz := K2.out.size
  have hln := HLN.out
  have D5 := hid (row_gen c F2 y2.1 g y2.2 79 8192 xo xc ds w2 A2.out.co A2.out.bl A2.out.ap (by omega) hdata hs4 (fun k hk => ⟨Nat.lt_of_lt_of_le (HX.out k hk).1 G2.out.mods.size, G2.out.apart (HX.out k hk).2.1 (HX.out k hk).1, (HX.out k hk).2.2⟩))
  have HEND := hid hend
  clear hdata hs4 hsz hln hend
  go_wp2_with fail
  refine D5.out.mono ?_
  rintro e w5 ⟨F5, yo, yc, rfl, q1, q2, q3, q4, q5⟩
  have Q1 := hid q1; have Q2 := hid (G2.out.trans q2); have Q3 := hid q3; have Q4 := hid q4; have Q5 := hid q5
  clear q1 q2 q3 q4 q5 D5
  go_wp2
  go_end0
  rw [HEND.out]
  exact ⟨⟨F5, yo, yc, rfl, Q1.out, Q2.out, Q3.out, Q4.out, fun k hk => by
    obtain ⟨a1, a2, a3, a4⟩ := Q5.out k hk
    exact ⟨a1, a2, a3, a4.imp id fun h => Nat.le_trans G2.out.mods.size h⟩⟩, K2.out.mono (by decide)⟩

set_option maxRecDepth 100000 in
set_option maxHeartbeats 4000000 in
theorem good_16 (c : Nat) (F0 : Nat → Prop) (g : Nat) (y0 : X) (dv ev : Value) (hev : ev = .slice none 0 0) (w0 : World) (h : At w0 c F0 g y0) (hk : Ok (resLay dv ev) 4000000 y0) (hf : (num1 8 .u64 82 y0).1.bad = false → ((num1 8 .u64 82 y0).1.truth false).1 = false) :
    Calls Try.prog 73 #[.pointer (some ⟨c, 0, none⟩), .int .i64 16, .pointer (some ⟨g, 0, none⟩)] w0 (fun e w' => GQ w0 c F0 g (.tuple #[]) (pGood 16 y0) e w' ∧ Ok (resLay dv ev) 8000000 (pGood 16 y0)) := by
  have A0 : Hid (At w0 c F0 g y0) := h
  have K0 : Hid (Ok (resLay dv ev) 4000000 y0) := hk
  obtain ⟨y1, e1⟩ : ∃ z, z = num1 8 .u64 82 y0 := ⟨_, rfl⟩
  have K1 : Hid (Ok (resLay dv ev) 4000008 y1) := by rw [e1]; exact (K0.out.num8 rfl).mono (by decide)
  have D := hid (A0.out.u64 K0.out (by decide) (o := 82) 125 rfl)
  rw [← e1] at D hf
  obtain ⟨y2, e2⟩ : ∃ z, z = pEntries0 y1 := ⟨_, rfl⟩
  have K2 : Hid (Ok (resLay dv ev) 4000012 y2) := by rw [e2]; exact K1.out.entries0.mono (by decide)
  obtain ⟨y3, e3⟩ : ∃ z, z = pTruth 78 y2 := ⟨_, rfl⟩
  have K3 : Hid (Ok (resLay dv ev) 4000016 y3) := by rw [e3]; exact (K2.out.truth rfl).mono (by decide)
  have HEND : Hid (pGood 16 y0 = y3) := by show _ = _; rw [e3, e2, e1]; rfl
  have H83 : Hid (y1.2 83 = some (.slice none 0 0)) := by rw [← hev]; exact K1.out.ty 83 _ rfl
  have E2 := hid e2; have E3 := hid e3; have HF := hid hf
  clear h hk hev hf e1 e2 e3
  go_enter Try.func73, Try.ntmps73
  go_wp2_with fail
  refine D.out.mono ?_
  rintro e w1 ⟨rfl, F1, A1, g1⟩
  clear D
  have D := hid (entries0_gen c F1 g y1 83 false w1 A1.out (by have := K1.out.size; omega) H83.out HF.out)
  rw [← E2.out] at D
  go_wp2_with fail
  refine D.out.mono ?_
  rintro e w2 ⟨rfl, F2, A2, g2⟩
  clear D
  have D := hid (A2.out.truth K2.out (by decide) (o := 78) rfl)
  rw [← E3.out] at D
  go_wp2_with fail
  refine D.out.mono ?_
  rintro e w3 ⟨rfl, F3, A3, g3⟩
  clear D
  go_wp2
  go_end0
  rw [HEND.out]
  exact ⟨⟨rfl, F3, A3, g1.out.trans (g2.out.trans g3.out)⟩, K3.out.mono (by decide)⟩

set_option maxRecDepth 100000 in
set_option maxHeartbeats 4000000 in
theorem good_17 (c : Nat) (F0 : Nat → Prop) (g : Nat) (y0 : X) (dv ev : Value) (hev : ev = .slice none 0 0) (w0 : World) (h : At w0 c F0 g y0) (hk : Ok (resLay dv ev) 4000000 y0) (hf : (num1 8 .u64 82 y0).1.bad = false → ((num1 8 .u64 82 y0).1.truth false).1 = false) :
    Calls Try.prog 73 #[.pointer (some ⟨c, 0, none⟩), .int .i64 17, .pointer (some ⟨g, 0, none⟩)] w0 (fun e w' => GQ w0 c F0 g (.tuple #[]) (pGood 17 y0) e w' ∧ Ok (resLay dv ev) 8000000 (pGood 17 y0)) := by
  have A0 : Hid (At w0 c F0 g y0) := h
  have K0 : Hid (Ok (resLay dv ev) 4000000 y0) := hk
  obtain ⟨y1, e1⟩ : ∃ z, z = num1 8 .u64 82 y0 := ⟨_, rfl⟩
  have K1 : Hid (Ok (resLay dv ev) 4000008 y1) := by rw [e1]; exact (K0.out.num8 rfl).mono (by decide)
  have D := hid (A0.out.u64 K0.out (by decide) (o := 82) 125 rfl)
  rw [← e1] at D hf
  obtain ⟨y2, e2⟩ : ∃ z, z = pEntries0 y1 := ⟨_, rfl⟩
  have K2 : Hid (Ok (resLay dv ev) 4000012 y2) := by rw [e2]; exact K1.out.entries0.mono (by decide)
  obtain ⟨y3, e3⟩ : ∃ z, z = pTruth 78 y2 := ⟨_, rfl⟩
  have K3 : Hid (Ok (resLay dv ev) 4000016 y3) := by rw [e3]; exact (K2.out.truth rfl).mono (by decide)
  have HEND : Hid (pGood 17 y0 = y3) := by show _ = _; rw [e3, e2, e1]; rfl
  have H83 : Hid (y1.2 83 = some (.slice none 0 0)) := by rw [← hev]; exact K1.out.ty 83 _ rfl
  have E2 := hid e2; have E3 := hid e3; have HF := hid hf
  clear h hk hev hf e1 e2 e3
  go_enter Try.func73, Try.ntmps73
  go_wp2_with fail
  refine D.out.mono ?_
  rintro e w1 ⟨rfl, F1, A1, g1⟩
  clear D
  have D := hid (entries0_gen c F1 g y1 83 true w1 A1.out (by have := K1.out.size; omega) H83.out HF.out)
  rw [← E2.out] at D
  go_wp2_with fail
  refine D.out.mono ?_
  rintro e w2 ⟨rfl, F2, A2, g2⟩
  clear D
  have D := hid (A2.out.truth K2.out (by decide) (o := 78) rfl)
  rw [← E3.out] at D
  go_wp2_with fail
  refine D.out.mono ?_
  rintro e w3 ⟨rfl, F3, A3, g3⟩
  clear D
  go_wp2
  go_end0
  rw [HEND.out]
  exact ⟨⟨rfl, F3, A3, g1.out.trans (g2.out.trans g3.out)⟩, K3.out.mono (by decide)⟩

end Go.Proofs.Ytanknjpcgceccaa
