/- nfsx's coder: args, procedure by procedure. (Printed by wip/tools/gen_gen9.py.) -/
import Derived.Test.YtanknjpcgceccaaGen8
namespace Go.Proofs.Ytanknjpcgceccaa
open Go.RowKit

/-- What stands in a procedure's arguments; of WRITE, ahead of the data. -/
def pArgs : Nat → X → X
  | 1, x => pText 64 0 (x)
  | 2, x => pIf 19 (pTime 20) (pTruth 19 (pSet 5 (pText 64 0 (x))))
  | 3, x => pNamed 3 (pText 255 2 (pText 64 0 (x)))
  | 4, x => num1 4 .u32 22 (pText 64 0 (x))
  | 5, x => pText 64 0 (x)
  | 6, x => num1 4 .u32 24 (num1 8 .u64 23 (pText 64 0 (x)))
  | 7, x => pNumber 0 2 25 (num1 4 .u32 24 (num1 8 .u64 23 (pText 64 0 (x))))
  | 8, x => pNamed 8 (pText 255 2 (pText 64 0 (x)))
  | 9, x => pNamed 9 (pText 255 2 (pText 64 0 (x)))
  | 10, x => pNamed 10 (pText 255 2 (pText 64 0 (x)))
  | 11, x => pNamed 11 (pText 255 2 (pText 64 0 (x)))
  | 12, x => pNamed 12 (pText 255 2 (pText 64 0 (x)))
  | 13, x => pNamed 13 (pText 255 2 (pText 64 0 (x)))
  | 14, x => pNamed 14 (pText 255 2 (pText 64 0 (x)))
  | 15, x => pText 255 3 (pText 64 1 (pText 64 0 (x)))
  | 16, x => num1 4 .u32 24 (nums 8 .u64 [30, 31] (pText 64 0 (x)))
  | 17, x => nums 4 .u32 [32, 33] (nums 8 .u64 [30, 31] (pText 64 0 (x)))
  | 18, x => pText 64 0 (x)
  | 19, x => pText 64 0 (x)
  | 20, x => pText 64 0 (x)
  | 21, x => num1 4 .u32 24 (num1 8 .u64 23 (pText 64 0 (x)))
  | 101, x => pText 1024 4 (x)
  | 103, x => pText 1024 4 (x)
  | _, x => x

set_option maxRecDepth 100000 in
set_option maxHeartbeats 4000000 in
theorem args_0 (c : Nat) (F0 : Nat → Prop) (g : Nat) (x : X) (dv : Value) (w0 : World) (h : At w0 c F0 g x) (hk : Ok (argLay dv) 0 x) :
    Calls Try.prog 22 #[.pointer (some ⟨c, 0, none⟩), .int .i64 0, .pointer (some ⟨g, 0, none⟩)] w0 (fun e w' => GQ w0 c F0 g (.tuple #[]) (pArgs 0 x) e w' ∧ Ok (argLay dv) 18000000 (pArgs 0 x)) := by
  have K0 : Hid (Ok (argLay dv) 0 x) := hk
  have A0 : Hid (At w0 c F0 g x) := h
  have G0 : Hid (GG w0 F0 g w0 F0) := GG.refl _ _ _
  clear h hk
  go_enter Try.func22, Try.ntmps22
  go_wp2
  ((try simp only [Exit.inBlock, Exit.then]); refine bodyPost_ret (results_none rfl _ _ _) rfl ?_)
  have hend : pArgs 0 x = x := by
    rfl
  rw [hend]
  exact ⟨⟨rfl, F0, A0, G0⟩, K0.out.mono (by decide)⟩

set_option maxRecDepth 100000 in
set_option maxHeartbeats 4000000 in
theorem args_1 (c : Nat) (F0 : Nat → Prop) (g : Nat) (x : X) (dv : Value) (w0 : World) (h : At w0 c F0 g x) (hk : Ok (argLay dv) 0 x) :
    Calls Try.prog 22 #[.pointer (some ⟨c, 0, none⟩), .int .i64 1, .pointer (some ⟨g, 0, none⟩)] w0 (fun e w' => GQ w0 c F0 g (.tuple #[]) (pArgs 1 x) e w' ∧ Ok (argLay dv) 18000000 (pArgs 1 x)) := by
  have K0 : Hid (Ok (argLay dv) 0 x) := hk
  have A0 : Hid (At w0 c F0 g x) := h
  have G0 : Hid (GG w0 F0 g w0 F0) := GG.refl _ _ _
  clear h hk
  go_enter Try.func22, Try.ntmps22
  obtain ⟨y1, e1⟩ : ∃ z, z = pText 64 0 (x) := ⟨_, rfl⟩
  have K1 : Hid (Ok (argLay dv) 2000008 y1) := by rw [e1]; exact (K0.out.text (o := 0) (most := 64) ⟨by decide, by decide⟩ rfl).mono (by decide)
  have C1 := A0.out.text K0.out (by decide) (o := 0) (most := 64) rfl
  rw [← e1] at C1
  have D1 := hid C1; have E1 := hid e1; clear C1 e1
  go_wp2_with fail
  refine D1.out.mono ?_
  rintro e w1 ⟨rfl, F1, A1, g1⟩
  have G1 := hid (G0.out.trans g1.out); clear D1 g1
  go_wp2
  go_end0
  have hend : pArgs 1 x = y1 := by
    obtain rfl := E1.out
    rfl
  rw [hend]
  exact ⟨⟨rfl, F1, A1, G1⟩, K1.out.mono (by decide)⟩

set_option maxRecDepth 100000 in
set_option maxHeartbeats 4000000 in
theorem args_2 (c : Nat) (F0 : Nat → Prop) (g : Nat) (x : X) (dv : Value) (w0 : World) (h : At w0 c F0 g x) (hk : Ok (argLay dv) 0 x) :
    Calls Try.prog 22 #[.pointer (some ⟨c, 0, none⟩), .int .i64 2, .pointer (some ⟨g, 0, none⟩)] w0 (fun e w' => GQ w0 c F0 g (.tuple #[]) (pArgs 2 x) e w' ∧ Ok (argLay dv) 18000000 (pArgs 2 x)) := by
  have K0 : Hid (Ok (argLay dv) 0 x) := hk
  have A0 : Hid (At w0 c F0 g x) := h
  have G0 : Hid (GG w0 F0 g w0 F0) := GG.refl _ _ _
  clear h hk
  go_enter Try.func22, Try.ntmps22
  obtain ⟨y1, e1⟩ : ∃ z, z = pText 64 0 (x) := ⟨_, rfl⟩
  have K1 : Hid (Ok (argLay dv) 2000008 y1) := by rw [e1]; exact (K0.out.text (o := 0) (most := 64) ⟨by decide, by decide⟩ rfl).mono (by decide)
  have C1 := A0.out.text K0.out (by decide) (o := 0) (most := 64) rfl
  rw [← e1] at C1
  have D1 := hid C1; have E1 := hid e1; clear C1 e1
  go_wp2_with fail
  refine D1.out.mono ?_
  rintro e w1 ⟨rfl, F1, A1, g1⟩
  have G1 := hid (G0.out.trans g1.out); clear D1 g1
  obtain ⟨y2, e2⟩ : ∃ z, z = pSet 5 (y1) := ⟨_, rfl⟩
  have K2 : Hid (Ok (argLay dv) 2000068 y2) := by rw [e2]; exact (Ok.set K1.out).mono (by decide)
  have C2 := set_gen c F1 g y1 (argLay dv) 2000008 5 w1 A1.out K1.out (by decide) (sat_in dv)
  rw [← e2] at C2
  have D2 := hid C2; have E2 := hid e2; clear C2 e2
  go_wp2_with fail
  refine D2.out.mono ?_
  rintro e w2 ⟨⟨rfl, F2, A2, g2⟩, _⟩
  have G2 := hid (G1.out.trans g2.out); clear D2 g2
  obtain ⟨y3, e3⟩ : ∃ z, z = pTruth 19 (y2) := ⟨_, rfl⟩
  have K3 : Hid (Ok (argLay dv) 2000072 y3) := by rw [e3]; exact (K2.out.truth (o := 19) rfl).mono (by decide)
  have C3 := A2.out.truth K2.out (by decide) (o := 19) rfl
  rw [← e3] at C3
  obtain ⟨b3, hb3⟩ : ∃ b, b = bv (y3.2 19) := ⟨_, rfl⟩
  rw [← hb3] at C3
  have B3 := hid hb3; clear hb3
  have D3 := hid C3; have E3 := hid e3; clear C3 e3
  go_wp2_with fail
  refine D3.out.mono ?_
  rintro e w3 ⟨rfl, F3, A3, g3⟩
  have G3 := hid (G2.out.trans g3.out); clear D3 g3
  cases b3
  · have hb := B3.out.symm
    have HBV := hid hb; clear hb
    go_wp2
    go_end0
    have hend : pArgs 2 x = y3 := by
      obtain rfl := E3.out
      obtain rfl := E2.out
      obtain rfl := E1.out
      simp only [pArgs]
      simp [HBV.out, pIf]
    rw [hend]
    exact ⟨⟨rfl, F3, A3, G3⟩, K3.out.mono (by decide)⟩
  · have hb := B3.out.symm
    have HBV := hid hb; clear hb
    obtain ⟨y4, e4⟩ : ∃ z, z = pTime 20 (y3) := ⟨_, rfl⟩
    have K4 : Hid (Ok (argLay dv) 2000080 y4) := by rw [e4]; exact (K3.out.time (o := 20) rfl rfl).mono (by decide)
    have C4 := time_gen c F3 g y3 (argLay dv) 2000072 20 w3 A3.out K3.out (by decide) rfl rfl
    rw [← e4] at C4
    have D4 := hid C4; have E4 := hid e4; clear C4 e4
    go_wp2_with fail
    refine D4.out.mono ?_
    rintro e w4 ⟨rfl, F4, A4, g4⟩
    have G4 := hid (G3.out.trans g4.out); clear D4 g4
    go_wp2
    go_end0
    have hend : pArgs 2 x = y4 := by
      obtain rfl := E4.out
      obtain rfl := E3.out
      obtain rfl := E2.out
      obtain rfl := E1.out
      simp only [pArgs]
      simp [HBV.out, pIf]
    rw [hend]
    exact ⟨⟨rfl, F4, A4, G4⟩, K4.out.mono (by decide)⟩

set_option maxRecDepth 100000 in
set_option maxHeartbeats 4000000 in
theorem args_3 (c : Nat) (F0 : Nat → Prop) (g : Nat) (x : X) (dv : Value) (w0 : World) (h : At w0 c F0 g x) (hk : Ok (argLay dv) 0 x) :
    Calls Try.prog 22 #[.pointer (some ⟨c, 0, none⟩), .int .i64 3, .pointer (some ⟨g, 0, none⟩)] w0 (fun e w' => GQ w0 c F0 g (.tuple #[]) (pArgs 3 x) e w' ∧ Ok (argLay dv) 18000000 (pArgs 3 x)) := by
  have K0 : Hid (Ok (argLay dv) 0 x) := hk
  have A0 : Hid (At w0 c F0 g x) := h
  have G0 : Hid (GG w0 F0 g w0 F0) := GG.refl _ _ _
  clear h hk
  go_enter Try.func22, Try.ntmps22
  obtain ⟨y1, e1⟩ : ∃ z, z = pText 64 0 (x) := ⟨_, rfl⟩
  have K1 : Hid (Ok (argLay dv) 2000008 y1) := by rw [e1]; exact (K0.out.text (o := 0) (most := 64) ⟨by decide, by decide⟩ rfl).mono (by decide)
  have C1 := A0.out.text K0.out (by decide) (o := 0) (most := 64) rfl
  rw [← e1] at C1
  have D1 := hid C1; have E1 := hid e1; clear C1 e1
  go_wp2_with fail
  refine D1.out.mono ?_
  rintro e w1 ⟨rfl, F1, A1, g1⟩
  have G1 := hid (G0.out.trans g1.out); clear D1 g1
  obtain ⟨y2, e2⟩ : ∃ z, z = pText 255 2 (y1) := ⟨_, rfl⟩
  have K2 : Hid (Ok (argLay dv) 4000016 y2) := by rw [e2]; exact (K1.out.text (o := 2) (most := 255) ⟨by decide, by decide⟩ rfl).mono (by decide)
  have C2 := A1.out.text K1.out (by decide) (o := 2) (most := 255) rfl
  rw [← e2] at C2
  have D2 := hid C2; have E2 := hid e2; clear C2 e2
  go_wp2_with fail
  refine D2.out.mono ?_
  rintro e w2 ⟨rfl, F2, A2, g2⟩
  have G2 := hid (G1.out.trans g2.out); clear D2 g2
  obtain ⟨y3, e3⟩ : ∃ z, z = pNamed 3 y2 := ⟨_, rfl⟩
  have C3 := named_3 c F2 g y2 dv w2 A2.out (K2.out.mono (by decide))
  rw [← e3] at C3
  have D3 := hid C3; have E3 := hid e3; clear C3 e3
  go_wp2_with fail
  refine D3.out.mono ?_
  rintro e w3 ⟨⟨rfl, F3, A3, g3⟩, kk⟩
  have G3 := hid (G2.out.trans g3.out); have K3 := hid kk; clear D3 g3 kk
  go_wp2
  go_end0
  have hend : pArgs 3 x = y3 := by
    obtain rfl := E3.out
    obtain rfl := E2.out
    obtain rfl := E1.out
    rfl
  rw [hend]
  exact ⟨⟨rfl, F3, A3, G3⟩, K3.out.mono (by decide)⟩

set_option maxRecDepth 100000 in
set_option maxHeartbeats 4000000 in
theorem args_4 (c : Nat) (F0 : Nat → Prop) (g : Nat) (x : X) (dv : Value) (w0 : World) (h : At w0 c F0 g x) (hk : Ok (argLay dv) 0 x) :
    Calls Try.prog 22 #[.pointer (some ⟨c, 0, none⟩), .int .i64 4, .pointer (some ⟨g, 0, none⟩)] w0 (fun e w' => GQ w0 c F0 g (.tuple #[]) (pArgs 4 x) e w' ∧ Ok (argLay dv) 18000000 (pArgs 4 x)) := by
  have K0 : Hid (Ok (argLay dv) 0 x) := hk
  have A0 : Hid (At w0 c F0 g x) := h
  have G0 : Hid (GG w0 F0 g w0 F0) := GG.refl _ _ _
  clear h hk
  go_enter Try.func22, Try.ntmps22
  obtain ⟨y1, e1⟩ : ∃ z, z = pText 64 0 (x) := ⟨_, rfl⟩
  have K1 : Hid (Ok (argLay dv) 2000008 y1) := by rw [e1]; exact (K0.out.text (o := 0) (most := 64) ⟨by decide, by decide⟩ rfl).mono (by decide)
  have C1 := A0.out.text K0.out (by decide) (o := 0) (most := 64) rfl
  rw [← e1] at C1
  have D1 := hid C1; have E1 := hid e1; clear C1 e1
  go_wp2_with fail
  refine D1.out.mono ?_
  rintro e w1 ⟨rfl, F1, A1, g1⟩
  have G1 := hid (G0.out.trans g1.out); clear D1 g1
  obtain ⟨y2, e2⟩ : ∃ z, z = num1 4 .u32 22 (y1) := ⟨_, rfl⟩
  have K2 : Hid (Ok (argLay dv) 2000012 y2) := by rw [e2]; exact (K1.out.num1 (o := 22) rfl).mono (by decide)
  have C2 := A1.out.u32 K1.out (by decide) (o := 22) 123 rfl
  rw [← e2] at C2
  have D2 := hid C2; have E2 := hid e2; clear C2 e2
  go_wp2_with fail
  refine D2.out.mono ?_
  rintro e w2 ⟨rfl, F2, A2, g2⟩
  have G2 := hid (G1.out.trans g2.out); clear D2 g2
  go_wp2
  go_end0
  have hend : pArgs 4 x = y2 := by
    obtain rfl := E2.out
    obtain rfl := E1.out
    rfl
  rw [hend]
  exact ⟨⟨rfl, F2, A2, G2⟩, K2.out.mono (by decide)⟩

set_option maxRecDepth 100000 in
set_option maxHeartbeats 4000000 in
theorem args_5 (c : Nat) (F0 : Nat → Prop) (g : Nat) (x : X) (dv : Value) (w0 : World) (h : At w0 c F0 g x) (hk : Ok (argLay dv) 0 x) :
    Calls Try.prog 22 #[.pointer (some ⟨c, 0, none⟩), .int .i64 5, .pointer (some ⟨g, 0, none⟩)] w0 (fun e w' => GQ w0 c F0 g (.tuple #[]) (pArgs 5 x) e w' ∧ Ok (argLay dv) 18000000 (pArgs 5 x)) := by
  have K0 : Hid (Ok (argLay dv) 0 x) := hk
  have A0 : Hid (At w0 c F0 g x) := h
  have G0 : Hid (GG w0 F0 g w0 F0) := GG.refl _ _ _
  clear h hk
  go_enter Try.func22, Try.ntmps22
  obtain ⟨y1, e1⟩ : ∃ z, z = pText 64 0 (x) := ⟨_, rfl⟩
  have K1 : Hid (Ok (argLay dv) 2000008 y1) := by rw [e1]; exact (K0.out.text (o := 0) (most := 64) ⟨by decide, by decide⟩ rfl).mono (by decide)
  have C1 := A0.out.text K0.out (by decide) (o := 0) (most := 64) rfl
  rw [← e1] at C1
  have D1 := hid C1; have E1 := hid e1; clear C1 e1
  go_wp2_with fail
  refine D1.out.mono ?_
  rintro e w1 ⟨rfl, F1, A1, g1⟩
  have G1 := hid (G0.out.trans g1.out); clear D1 g1
  go_wp2
  go_end0
  have hend : pArgs 5 x = y1 := by
    obtain rfl := E1.out
    rfl
  rw [hend]
  exact ⟨⟨rfl, F1, A1, G1⟩, K1.out.mono (by decide)⟩

set_option maxRecDepth 100000 in
set_option maxHeartbeats 4000000 in
theorem args_6 (c : Nat) (F0 : Nat → Prop) (g : Nat) (x : X) (dv : Value) (w0 : World) (h : At w0 c F0 g x) (hk : Ok (argLay dv) 0 x) :
    Calls Try.prog 22 #[.pointer (some ⟨c, 0, none⟩), .int .i64 6, .pointer (some ⟨g, 0, none⟩)] w0 (fun e w' => GQ w0 c F0 g (.tuple #[]) (pArgs 6 x) e w' ∧ Ok (argLay dv) 18000000 (pArgs 6 x)) := by
  have K0 : Hid (Ok (argLay dv) 0 x) := hk
  have A0 : Hid (At w0 c F0 g x) := h
  have G0 : Hid (GG w0 F0 g w0 F0) := GG.refl _ _ _
  clear h hk
  go_enter Try.func22, Try.ntmps22
  obtain ⟨y1, e1⟩ : ∃ z, z = pText 64 0 (x) := ⟨_, rfl⟩
  have K1 : Hid (Ok (argLay dv) 2000008 y1) := by rw [e1]; exact (K0.out.text (o := 0) (most := 64) ⟨by decide, by decide⟩ rfl).mono (by decide)
  have C1 := A0.out.text K0.out (by decide) (o := 0) (most := 64) rfl
  rw [← e1] at C1
  have D1 := hid C1; have E1 := hid e1; clear C1 e1
  go_wp2_with fail
  refine D1.out.mono ?_
  rintro e w1 ⟨rfl, F1, A1, g1⟩
  have G1 := hid (G0.out.trans g1.out); clear D1 g1
  obtain ⟨y2, e2⟩ : ∃ z, z = num1 8 .u64 23 (y1) := ⟨_, rfl⟩
  have K2 : Hid (Ok (argLay dv) 2000016 y2) := by rw [e2]; exact (K1.out.num8 (o := 23) rfl).mono (by decide)
  have C2 := A1.out.u64 K1.out (by decide) (o := 23) 125 rfl
  rw [← e2] at C2
  have D2 := hid C2; have E2 := hid e2; clear C2 e2
  go_wp2_with fail
  refine D2.out.mono ?_
  rintro e w2 ⟨rfl, F2, A2, g2⟩
  have G2 := hid (G1.out.trans g2.out); clear D2 g2
  obtain ⟨y3, e3⟩ : ∃ z, z = num1 4 .u32 24 (y2) := ⟨_, rfl⟩
  have K3 : Hid (Ok (argLay dv) 2000020 y3) := by rw [e3]; exact (K2.out.num1 (o := 24) rfl).mono (by decide)
  have C3 := A2.out.u32 K2.out (by decide) (o := 24) 123 rfl
  rw [← e3] at C3
  have D3 := hid C3; have E3 := hid e3; clear C3 e3
  go_wp2_with fail
  refine D3.out.mono ?_
  rintro e w3 ⟨rfl, F3, A3, g3⟩
  have G3 := hid (G2.out.trans g3.out); clear D3 g3
  go_wp2
  go_end0
  have hend : pArgs 6 x = y3 := by
    obtain rfl := E3.out
    obtain rfl := E2.out
    obtain rfl := E1.out
    rfl
  rw [hend]
  exact ⟨⟨rfl, F3, A3, G3⟩, K3.out.mono (by decide)⟩

set_option maxRecDepth 100000 in
set_option maxHeartbeats 4000000 in
theorem args_8 (c : Nat) (F0 : Nat → Prop) (g : Nat) (x : X) (dv : Value) (w0 : World) (h : At w0 c F0 g x) (hk : Ok (argLay dv) 0 x) :
    Calls Try.prog 22 #[.pointer (some ⟨c, 0, none⟩), .int .i64 8, .pointer (some ⟨g, 0, none⟩)] w0 (fun e w' => GQ w0 c F0 g (.tuple #[]) (pArgs 8 x) e w' ∧ Ok (argLay dv) 18000000 (pArgs 8 x)) := by
  have K0 : Hid (Ok (argLay dv) 0 x) := hk
  have A0 : Hid (At w0 c F0 g x) := h
  have G0 : Hid (GG w0 F0 g w0 F0) := GG.refl _ _ _
  clear h hk
  go_enter Try.func22, Try.ntmps22
  obtain ⟨y1, e1⟩ : ∃ z, z = pText 64 0 (x) := ⟨_, rfl⟩
  have K1 : Hid (Ok (argLay dv) 2000008 y1) := by rw [e1]; exact (K0.out.text (o := 0) (most := 64) ⟨by decide, by decide⟩ rfl).mono (by decide)
  have C1 := A0.out.text K0.out (by decide) (o := 0) (most := 64) rfl
  rw [← e1] at C1
  have D1 := hid C1; have E1 := hid e1; clear C1 e1
  go_wp2_with fail
  refine D1.out.mono ?_
  rintro e w1 ⟨rfl, F1, A1, g1⟩
  have G1 := hid (G0.out.trans g1.out); clear D1 g1
  obtain ⟨y2, e2⟩ : ∃ z, z = pText 255 2 (y1) := ⟨_, rfl⟩
  have K2 : Hid (Ok (argLay dv) 4000016 y2) := by rw [e2]; exact (K1.out.text (o := 2) (most := 255) ⟨by decide, by decide⟩ rfl).mono (by decide)
  have C2 := A1.out.text K1.out (by decide) (o := 2) (most := 255) rfl
  rw [← e2] at C2
  have D2 := hid C2; have E2 := hid e2; clear C2 e2
  go_wp2_with fail
  refine D2.out.mono ?_
  rintro e w2 ⟨rfl, F2, A2, g2⟩
  have G2 := hid (G1.out.trans g2.out); clear D2 g2
  obtain ⟨y3, e3⟩ : ∃ z, z = pNamed 8 y2 := ⟨_, rfl⟩
  have C3 := named_8 c F2 g y2 dv w2 A2.out (K2.out.mono (by decide))
  rw [← e3] at C3
  have D3 := hid C3; have E3 := hid e3; clear C3 e3
  go_wp2_with fail
  refine D3.out.mono ?_
  rintro e w3 ⟨⟨rfl, F3, A3, g3⟩, kk⟩
  have G3 := hid (G2.out.trans g3.out); have K3 := hid kk; clear D3 g3 kk
  go_wp2
  go_end0
  have hend : pArgs 8 x = y3 := by
    obtain rfl := E3.out
    obtain rfl := E2.out
    obtain rfl := E1.out
    rfl
  rw [hend]
  exact ⟨⟨rfl, F3, A3, G3⟩, K3.out.mono (by decide)⟩

set_option maxRecDepth 100000 in
set_option maxHeartbeats 4000000 in
theorem args_9 (c : Nat) (F0 : Nat → Prop) (g : Nat) (x : X) (dv : Value) (w0 : World) (h : At w0 c F0 g x) (hk : Ok (argLay dv) 0 x) :
    Calls Try.prog 22 #[.pointer (some ⟨c, 0, none⟩), .int .i64 9, .pointer (some ⟨g, 0, none⟩)] w0 (fun e w' => GQ w0 c F0 g (.tuple #[]) (pArgs 9 x) e w' ∧ Ok (argLay dv) 18000000 (pArgs 9 x)) := by
  have K0 : Hid (Ok (argLay dv) 0 x) := hk
  have A0 : Hid (At w0 c F0 g x) := h
  have G0 : Hid (GG w0 F0 g w0 F0) := GG.refl _ _ _
  clear h hk
  go_enter Try.func22, Try.ntmps22
  obtain ⟨y1, e1⟩ : ∃ z, z = pText 64 0 (x) := ⟨_, rfl⟩
  have K1 : Hid (Ok (argLay dv) 2000008 y1) := by rw [e1]; exact (K0.out.text (o := 0) (most := 64) ⟨by decide, by decide⟩ rfl).mono (by decide)
  have C1 := A0.out.text K0.out (by decide) (o := 0) (most := 64) rfl
  rw [← e1] at C1
  have D1 := hid C1; have E1 := hid e1; clear C1 e1
  go_wp2_with fail
  refine D1.out.mono ?_
  rintro e w1 ⟨rfl, F1, A1, g1⟩
  have G1 := hid (G0.out.trans g1.out); clear D1 g1
  obtain ⟨y2, e2⟩ : ∃ z, z = pText 255 2 (y1) := ⟨_, rfl⟩
  have K2 : Hid (Ok (argLay dv) 4000016 y2) := by rw [e2]; exact (K1.out.text (o := 2) (most := 255) ⟨by decide, by decide⟩ rfl).mono (by decide)
  have C2 := A1.out.text K1.out (by decide) (o := 2) (most := 255) rfl
  rw [← e2] at C2
  have D2 := hid C2; have E2 := hid e2; clear C2 e2
  go_wp2_with fail
  refine D2.out.mono ?_
  rintro e w2 ⟨rfl, F2, A2, g2⟩
  have G2 := hid (G1.out.trans g2.out); clear D2 g2
  obtain ⟨y3, e3⟩ : ∃ z, z = pNamed 9 y2 := ⟨_, rfl⟩
  have C3 := named_9 c F2 g y2 dv w2 A2.out (K2.out.mono (by decide))
  rw [← e3] at C3
  have D3 := hid C3; have E3 := hid e3; clear C3 e3
  go_wp2_with fail
  refine D3.out.mono ?_
  rintro e w3 ⟨⟨rfl, F3, A3, g3⟩, kk⟩
  have G3 := hid (G2.out.trans g3.out); have K3 := hid kk; clear D3 g3 kk
  go_wp2
  go_end0
  have hend : pArgs 9 x = y3 := by
    obtain rfl := E3.out
    obtain rfl := E2.out
    obtain rfl := E1.out
    rfl
  rw [hend]
  exact ⟨⟨rfl, F3, A3, G3⟩, K3.out.mono (by decide)⟩

set_option maxRecDepth 100000 in
set_option maxHeartbeats 4000000 in
theorem args_10 (c : Nat) (F0 : Nat → Prop) (g : Nat) (x : X) (dv : Value) (w0 : World) (h : At w0 c F0 g x) (hk : Ok (argLay dv) 0 x) :
    Calls Try.prog 22 #[.pointer (some ⟨c, 0, none⟩), .int .i64 10, .pointer (some ⟨g, 0, none⟩)] w0 (fun e w' => GQ w0 c F0 g (.tuple #[]) (pArgs 10 x) e w' ∧ Ok (argLay dv) 18000000 (pArgs 10 x)) := by
  have K0 : Hid (Ok (argLay dv) 0 x) := hk
  have A0 : Hid (At w0 c F0 g x) := h
  have G0 : Hid (GG w0 F0 g w0 F0) := GG.refl _ _ _
  clear h hk
  go_enter Try.func22, Try.ntmps22
  obtain ⟨y1, e1⟩ : ∃ z, z = pText 64 0 (x) := ⟨_, rfl⟩
  have K1 : Hid (Ok (argLay dv) 2000008 y1) := by rw [e1]; exact (K0.out.text (o := 0) (most := 64) ⟨by decide, by decide⟩ rfl).mono (by decide)
  have C1 := A0.out.text K0.out (by decide) (o := 0) (most := 64) rfl
  rw [← e1] at C1
  have D1 := hid C1; have E1 := hid e1; clear C1 e1
  go_wp2_with fail
  refine D1.out.mono ?_
  rintro e w1 ⟨rfl, F1, A1, g1⟩
  have G1 := hid (G0.out.trans g1.out); clear D1 g1
  obtain ⟨y2, e2⟩ : ∃ z, z = pText 255 2 (y1) := ⟨_, rfl⟩
  have K2 : Hid (Ok (argLay dv) 4000016 y2) := by rw [e2]; exact (K1.out.text (o := 2) (most := 255) ⟨by decide, by decide⟩ rfl).mono (by decide)
  have C2 := A1.out.text K1.out (by decide) (o := 2) (most := 255) rfl
  rw [← e2] at C2
  have D2 := hid C2; have E2 := hid e2; clear C2 e2
  go_wp2_with fail
  refine D2.out.mono ?_
  rintro e w2 ⟨rfl, F2, A2, g2⟩
  have G2 := hid (G1.out.trans g2.out); clear D2 g2
  obtain ⟨y3, e3⟩ : ∃ z, z = pNamed 10 y2 := ⟨_, rfl⟩
  have C3 := named_10 c F2 g y2 dv w2 A2.out (K2.out.mono (by decide))
  rw [← e3] at C3
  have D3 := hid C3; have E3 := hid e3; clear C3 e3
  go_wp2_with fail
  refine D3.out.mono ?_
  rintro e w3 ⟨⟨rfl, F3, A3, g3⟩, kk⟩
  have G3 := hid (G2.out.trans g3.out); have K3 := hid kk; clear D3 g3 kk
  go_wp2
  go_end0
  have hend : pArgs 10 x = y3 := by
    obtain rfl := E3.out
    obtain rfl := E2.out
    obtain rfl := E1.out
    rfl
  rw [hend]
  exact ⟨⟨rfl, F3, A3, G3⟩, K3.out.mono (by decide)⟩

set_option maxRecDepth 100000 in
set_option maxHeartbeats 4000000 in
theorem args_11 (c : Nat) (F0 : Nat → Prop) (g : Nat) (x : X) (dv : Value) (w0 : World) (h : At w0 c F0 g x) (hk : Ok (argLay dv) 0 x) :
    Calls Try.prog 22 #[.pointer (some ⟨c, 0, none⟩), .int .i64 11, .pointer (some ⟨g, 0, none⟩)] w0 (fun e w' => GQ w0 c F0 g (.tuple #[]) (pArgs 11 x) e w' ∧ Ok (argLay dv) 18000000 (pArgs 11 x)) := by
  have K0 : Hid (Ok (argLay dv) 0 x) := hk
  have A0 : Hid (At w0 c F0 g x) := h
  have G0 : Hid (GG w0 F0 g w0 F0) := GG.refl _ _ _
  clear h hk
  go_enter Try.func22, Try.ntmps22
  obtain ⟨y1, e1⟩ : ∃ z, z = pText 64 0 (x) := ⟨_, rfl⟩
  have K1 : Hid (Ok (argLay dv) 2000008 y1) := by rw [e1]; exact (K0.out.text (o := 0) (most := 64) ⟨by decide, by decide⟩ rfl).mono (by decide)
  have C1 := A0.out.text K0.out (by decide) (o := 0) (most := 64) rfl
  rw [← e1] at C1
  have D1 := hid C1; have E1 := hid e1; clear C1 e1
  go_wp2_with fail
  refine D1.out.mono ?_
  rintro e w1 ⟨rfl, F1, A1, g1⟩
  have G1 := hid (G0.out.trans g1.out); clear D1 g1
  obtain ⟨y2, e2⟩ : ∃ z, z = pText 255 2 (y1) := ⟨_, rfl⟩
  have K2 : Hid (Ok (argLay dv) 4000016 y2) := by rw [e2]; exact (K1.out.text (o := 2) (most := 255) ⟨by decide, by decide⟩ rfl).mono (by decide)
  have C2 := A1.out.text K1.out (by decide) (o := 2) (most := 255) rfl
  rw [← e2] at C2
  have D2 := hid C2; have E2 := hid e2; clear C2 e2
  go_wp2_with fail
  refine D2.out.mono ?_
  rintro e w2 ⟨rfl, F2, A2, g2⟩
  have G2 := hid (G1.out.trans g2.out); clear D2 g2
  obtain ⟨y3, e3⟩ : ∃ z, z = pNamed 11 y2 := ⟨_, rfl⟩
  have C3 := named_11 c F2 g y2 dv w2 A2.out (K2.out.mono (by decide))
  rw [← e3] at C3
  have D3 := hid C3; have E3 := hid e3; clear C3 e3
  go_wp2_with fail
  refine D3.out.mono ?_
  rintro e w3 ⟨⟨rfl, F3, A3, g3⟩, kk⟩
  have G3 := hid (G2.out.trans g3.out); have K3 := hid kk; clear D3 g3 kk
  go_wp2
  go_end0
  have hend : pArgs 11 x = y3 := by
    obtain rfl := E3.out
    obtain rfl := E2.out
    obtain rfl := E1.out
    rfl
  rw [hend]
  exact ⟨⟨rfl, F3, A3, G3⟩, K3.out.mono (by decide)⟩

set_option maxRecDepth 100000 in
set_option maxHeartbeats 4000000 in
theorem args_12 (c : Nat) (F0 : Nat → Prop) (g : Nat) (x : X) (dv : Value) (w0 : World) (h : At w0 c F0 g x) (hk : Ok (argLay dv) 0 x) :
    Calls Try.prog 22 #[.pointer (some ⟨c, 0, none⟩), .int .i64 12, .pointer (some ⟨g, 0, none⟩)] w0 (fun e w' => GQ w0 c F0 g (.tuple #[]) (pArgs 12 x) e w' ∧ Ok (argLay dv) 18000000 (pArgs 12 x)) := by
  have K0 : Hid (Ok (argLay dv) 0 x) := hk
  have A0 : Hid (At w0 c F0 g x) := h
  have G0 : Hid (GG w0 F0 g w0 F0) := GG.refl _ _ _
  clear h hk
  go_enter Try.func22, Try.ntmps22
  obtain ⟨y1, e1⟩ : ∃ z, z = pText 64 0 (x) := ⟨_, rfl⟩
  have K1 : Hid (Ok (argLay dv) 2000008 y1) := by rw [e1]; exact (K0.out.text (o := 0) (most := 64) ⟨by decide, by decide⟩ rfl).mono (by decide)
  have C1 := A0.out.text K0.out (by decide) (o := 0) (most := 64) rfl
  rw [← e1] at C1
  have D1 := hid C1; have E1 := hid e1; clear C1 e1
  go_wp2_with fail
  refine D1.out.mono ?_
  rintro e w1 ⟨rfl, F1, A1, g1⟩
  have G1 := hid (G0.out.trans g1.out); clear D1 g1
  obtain ⟨y2, e2⟩ : ∃ z, z = pText 255 2 (y1) := ⟨_, rfl⟩
  have K2 : Hid (Ok (argLay dv) 4000016 y2) := by rw [e2]; exact (K1.out.text (o := 2) (most := 255) ⟨by decide, by decide⟩ rfl).mono (by decide)
  have C2 := A1.out.text K1.out (by decide) (o := 2) (most := 255) rfl
  rw [← e2] at C2
  have D2 := hid C2; have E2 := hid e2; clear C2 e2
  go_wp2_with fail
  refine D2.out.mono ?_
  rintro e w2 ⟨rfl, F2, A2, g2⟩
  have G2 := hid (G1.out.trans g2.out); clear D2 g2
  obtain ⟨y3, e3⟩ : ∃ z, z = pNamed 12 y2 := ⟨_, rfl⟩
  have C3 := named_12 c F2 g y2 dv w2 A2.out (K2.out.mono (by decide))
  rw [← e3] at C3
  have D3 := hid C3; have E3 := hid e3; clear C3 e3
  go_wp2_with fail
  refine D3.out.mono ?_
  rintro e w3 ⟨⟨rfl, F3, A3, g3⟩, kk⟩
  have G3 := hid (G2.out.trans g3.out); have K3 := hid kk; clear D3 g3 kk
  go_wp2
  go_end0
  have hend : pArgs 12 x = y3 := by
    obtain rfl := E3.out
    obtain rfl := E2.out
    obtain rfl := E1.out
    rfl
  rw [hend]
  exact ⟨⟨rfl, F3, A3, G3⟩, K3.out.mono (by decide)⟩

set_option maxRecDepth 100000 in
set_option maxHeartbeats 4000000 in
theorem args_13 (c : Nat) (F0 : Nat → Prop) (g : Nat) (x : X) (dv : Value) (w0 : World) (h : At w0 c F0 g x) (hk : Ok (argLay dv) 0 x) :
    Calls Try.prog 22 #[.pointer (some ⟨c, 0, none⟩), .int .i64 13, .pointer (some ⟨g, 0, none⟩)] w0 (fun e w' => GQ w0 c F0 g (.tuple #[]) (pArgs 13 x) e w' ∧ Ok (argLay dv) 18000000 (pArgs 13 x)) := by
  have K0 : Hid (Ok (argLay dv) 0 x) := hk
  have A0 : Hid (At w0 c F0 g x) := h
  have G0 : Hid (GG w0 F0 g w0 F0) := GG.refl _ _ _
  clear h hk
  go_enter Try.func22, Try.ntmps22
  obtain ⟨y1, e1⟩ : ∃ z, z = pText 64 0 (x) := ⟨_, rfl⟩
  have K1 : Hid (Ok (argLay dv) 2000008 y1) := by rw [e1]; exact (K0.out.text (o := 0) (most := 64) ⟨by decide, by decide⟩ rfl).mono (by decide)
  have C1 := A0.out.text K0.out (by decide) (o := 0) (most := 64) rfl
  rw [← e1] at C1
  have D1 := hid C1; have E1 := hid e1; clear C1 e1
  go_wp2_with fail
  refine D1.out.mono ?_
  rintro e w1 ⟨rfl, F1, A1, g1⟩
  have G1 := hid (G0.out.trans g1.out); clear D1 g1
  obtain ⟨y2, e2⟩ : ∃ z, z = pText 255 2 (y1) := ⟨_, rfl⟩
  have K2 : Hid (Ok (argLay dv) 4000016 y2) := by rw [e2]; exact (K1.out.text (o := 2) (most := 255) ⟨by decide, by decide⟩ rfl).mono (by decide)
  have C2 := A1.out.text K1.out (by decide) (o := 2) (most := 255) rfl
  rw [← e2] at C2
  have D2 := hid C2; have E2 := hid e2; clear C2 e2
  go_wp2_with fail
  refine D2.out.mono ?_
  rintro e w2 ⟨rfl, F2, A2, g2⟩
  have G2 := hid (G1.out.trans g2.out); clear D2 g2
  obtain ⟨y3, e3⟩ : ∃ z, z = pNamed 13 y2 := ⟨_, rfl⟩
  have C3 := named_13 c F2 g y2 dv w2 A2.out (K2.out.mono (by decide))
  rw [← e3] at C3
  have D3 := hid C3; have E3 := hid e3; clear C3 e3
  go_wp2_with fail
  refine D3.out.mono ?_
  rintro e w3 ⟨⟨rfl, F3, A3, g3⟩, kk⟩
  have G3 := hid (G2.out.trans g3.out); have K3 := hid kk; clear D3 g3 kk
  go_wp2
  go_end0
  have hend : pArgs 13 x = y3 := by
    obtain rfl := E3.out
    obtain rfl := E2.out
    obtain rfl := E1.out
    rfl
  rw [hend]
  exact ⟨⟨rfl, F3, A3, G3⟩, K3.out.mono (by decide)⟩

set_option maxRecDepth 100000 in
set_option maxHeartbeats 4000000 in
theorem args_14 (c : Nat) (F0 : Nat → Prop) (g : Nat) (x : X) (dv : Value) (w0 : World) (h : At w0 c F0 g x) (hk : Ok (argLay dv) 0 x) :
    Calls Try.prog 22 #[.pointer (some ⟨c, 0, none⟩), .int .i64 14, .pointer (some ⟨g, 0, none⟩)] w0 (fun e w' => GQ w0 c F0 g (.tuple #[]) (pArgs 14 x) e w' ∧ Ok (argLay dv) 18000000 (pArgs 14 x)) := by
  have K0 : Hid (Ok (argLay dv) 0 x) := hk
  have A0 : Hid (At w0 c F0 g x) := h
  have G0 : Hid (GG w0 F0 g w0 F0) := GG.refl _ _ _
  clear h hk
  go_enter Try.func22, Try.ntmps22
  obtain ⟨y1, e1⟩ : ∃ z, z = pText 64 0 (x) := ⟨_, rfl⟩
  have K1 : Hid (Ok (argLay dv) 2000008 y1) := by rw [e1]; exact (K0.out.text (o := 0) (most := 64) ⟨by decide, by decide⟩ rfl).mono (by decide)
  have C1 := A0.out.text K0.out (by decide) (o := 0) (most := 64) rfl
  rw [← e1] at C1
  have D1 := hid C1; have E1 := hid e1; clear C1 e1
  go_wp2_with fail
  refine D1.out.mono ?_
  rintro e w1 ⟨rfl, F1, A1, g1⟩
  have G1 := hid (G0.out.trans g1.out); clear D1 g1
  obtain ⟨y2, e2⟩ : ∃ z, z = pText 255 2 (y1) := ⟨_, rfl⟩
  have K2 : Hid (Ok (argLay dv) 4000016 y2) := by rw [e2]; exact (K1.out.text (o := 2) (most := 255) ⟨by decide, by decide⟩ rfl).mono (by decide)
  have C2 := A1.out.text K1.out (by decide) (o := 2) (most := 255) rfl
  rw [← e2] at C2
  have D2 := hid C2; have E2 := hid e2; clear C2 e2
  go_wp2_with fail
  refine D2.out.mono ?_
  rintro e w2 ⟨rfl, F2, A2, g2⟩
  have G2 := hid (G1.out.trans g2.out); clear D2 g2
  obtain ⟨y3, e3⟩ : ∃ z, z = pNamed 14 y2 := ⟨_, rfl⟩
  have C3 := named_14 c F2 g y2 dv w2 A2.out (K2.out.mono (by decide))
  rw [← e3] at C3
  have D3 := hid C3; have E3 := hid e3; clear C3 e3
  go_wp2_with fail
  refine D3.out.mono ?_
  rintro e w3 ⟨⟨rfl, F3, A3, g3⟩, kk⟩
  have G3 := hid (G2.out.trans g3.out); have K3 := hid kk; clear D3 g3 kk
  go_wp2
  go_end0
  have hend : pArgs 14 x = y3 := by
    obtain rfl := E3.out
    obtain rfl := E2.out
    obtain rfl := E1.out
    rfl
  rw [hend]
  exact ⟨⟨rfl, F3, A3, G3⟩, K3.out.mono (by decide)⟩

set_option maxRecDepth 100000 in
set_option maxHeartbeats 4000000 in
theorem args_15 (c : Nat) (F0 : Nat → Prop) (g : Nat) (x : X) (dv : Value) (w0 : World) (h : At w0 c F0 g x) (hk : Ok (argLay dv) 0 x) :
    Calls Try.prog 22 #[.pointer (some ⟨c, 0, none⟩), .int .i64 15, .pointer (some ⟨g, 0, none⟩)] w0 (fun e w' => GQ w0 c F0 g (.tuple #[]) (pArgs 15 x) e w' ∧ Ok (argLay dv) 18000000 (pArgs 15 x)) := by
  have K0 : Hid (Ok (argLay dv) 0 x) := hk
  have A0 : Hid (At w0 c F0 g x) := h
  have G0 : Hid (GG w0 F0 g w0 F0) := GG.refl _ _ _
  clear h hk
  go_enter Try.func22, Try.ntmps22
  obtain ⟨y1, e1⟩ : ∃ z, z = pText 64 0 (x) := ⟨_, rfl⟩
  have K1 : Hid (Ok (argLay dv) 2000008 y1) := by rw [e1]; exact (K0.out.text (o := 0) (most := 64) ⟨by decide, by decide⟩ rfl).mono (by decide)
  have C1 := A0.out.text K0.out (by decide) (o := 0) (most := 64) rfl
  rw [← e1] at C1
  have D1 := hid C1; have E1 := hid e1; clear C1 e1
  go_wp2_with fail
  refine D1.out.mono ?_
  rintro e w1 ⟨rfl, F1, A1, g1⟩
  have G1 := hid (G0.out.trans g1.out); clear D1 g1
  obtain ⟨y2, e2⟩ : ∃ z, z = pText 64 1 (y1) := ⟨_, rfl⟩
  have K2 : Hid (Ok (argLay dv) 4000016 y2) := by rw [e2]; exact (K1.out.text (o := 1) (most := 64) ⟨by decide, by decide⟩ rfl).mono (by decide)
  have C2 := A1.out.text K1.out (by decide) (o := 1) (most := 64) rfl
  rw [← e2] at C2
  have D2 := hid C2; have E2 := hid e2; clear C2 e2
  go_wp2_with fail
  refine D2.out.mono ?_
  rintro e w2 ⟨rfl, F2, A2, g2⟩
  have G2 := hid (G1.out.trans g2.out); clear D2 g2
  obtain ⟨y3, e3⟩ : ∃ z, z = pText 255 3 (y2) := ⟨_, rfl⟩
  have K3 : Hid (Ok (argLay dv) 6000024 y3) := by rw [e3]; exact (K2.out.text (o := 3) (most := 255) ⟨by decide, by decide⟩ rfl).mono (by decide)
  have C3 := A2.out.text K2.out (by decide) (o := 3) (most := 255) rfl
  rw [← e3] at C3
  have D3 := hid C3; have E3 := hid e3; clear C3 e3
  go_wp2_with fail
  refine D3.out.mono ?_
  rintro e w3 ⟨rfl, F3, A3, g3⟩
  have G3 := hid (G2.out.trans g3.out); clear D3 g3
  go_wp2
  go_end0
  have hend : pArgs 15 x = y3 := by
    obtain rfl := E3.out
    obtain rfl := E2.out
    obtain rfl := E1.out
    rfl
  rw [hend]
  exact ⟨⟨rfl, F3, A3, G3⟩, K3.out.mono (by decide)⟩

set_option maxRecDepth 100000 in
set_option maxHeartbeats 4000000 in
theorem args_16 (c : Nat) (F0 : Nat → Prop) (g : Nat) (x : X) (dv : Value) (w0 : World) (h : At w0 c F0 g x) (hk : Ok (argLay dv) 0 x) :
    Calls Try.prog 22 #[.pointer (some ⟨c, 0, none⟩), .int .i64 16, .pointer (some ⟨g, 0, none⟩)] w0 (fun e w' => GQ w0 c F0 g (.tuple #[]) (pArgs 16 x) e w' ∧ Ok (argLay dv) 18000000 (pArgs 16 x)) := by
  have K0 : Hid (Ok (argLay dv) 0 x) := hk
  have A0 : Hid (At w0 c F0 g x) := h
  have G0 : Hid (GG w0 F0 g w0 F0) := GG.refl _ _ _
  clear h hk
  go_enter Try.func22, Try.ntmps22
  obtain ⟨y1, e1⟩ : ∃ z, z = pText 64 0 (x) := ⟨_, rfl⟩
  have K1 : Hid (Ok (argLay dv) 2000008 y1) := by rw [e1]; exact (K0.out.text (o := 0) (most := 64) ⟨by decide, by decide⟩ rfl).mono (by decide)
  have C1 := A0.out.text K0.out (by decide) (o := 0) (most := 64) rfl
  rw [← e1] at C1
  have D1 := hid C1; have E1 := hid e1; clear C1 e1
  go_wp2_with fail
  refine D1.out.mono ?_
  rintro e w1 ⟨rfl, F1, A1, g1⟩
  have G1 := hid (G0.out.trans g1.out); clear D1 g1
  obtain ⟨y2, e2⟩ : ∃ z, z = nums 8 .u64 [30, 31] (y1) := ⟨_, rfl⟩
  have K2 : Hid (Ok (argLay dv) 2000024 y2) := by rw [e2]; exact ((K1.out.num8 (o := 30) rfl).num8 (o := 31) rfl).mono (by decide)
  have C2 := fun w' (hm : Mods (fun _ => False) w1 w') => (A1.out.keep hm).u64s K1.out (by decide) (o := 30) (o2 := 31) 125 rfl rfl
  rw [← e2] at C2
  have D2 := hid C2; have E2 := hid e2; clear C2 e2
  go_wp2_with fail
  go_region_with (refine (D2.out _ (Mods.drew _ _)).mono ?_; rintro e w2 ⟨rfl, F2, A2, g2⟩; have G2 := hid (G1.out.trans ((GG.new g (Mods.drew _ _)).trans g2.out)); clear D2 g2)
  obtain ⟨y3, e3⟩ : ∃ z, z = num1 4 .u32 24 (y2) := ⟨_, rfl⟩
  have K3 : Hid (Ok (argLay dv) 2000028 y3) := by rw [e3]; exact (K2.out.num1 (o := 24) rfl).mono (by decide)
  have C3 := A2.out.u32 K2.out (by decide) (o := 24) 123 rfl
  rw [← e3] at C3
  have D3 := hid C3; have E3 := hid e3; clear C3 e3
  go_wp2_with fail
  refine D3.out.mono ?_
  rintro e w3 ⟨rfl, F3, A3, g3⟩
  have G3 := hid (G2.out.trans g3.out); clear D3 g3
  go_wp2
  go_end0
  have hend : pArgs 16 x = y3 := by
    obtain rfl := E3.out
    obtain rfl := E2.out
    obtain rfl := E1.out
    rfl
  rw [hend]
  exact ⟨⟨rfl, F3, A3, G3⟩, K3.out.mono (by decide)⟩

set_option maxRecDepth 100000 in
set_option maxHeartbeats 4000000 in
theorem args_17 (c : Nat) (F0 : Nat → Prop) (g : Nat) (x : X) (dv : Value) (w0 : World) (h : At w0 c F0 g x) (hk : Ok (argLay dv) 0 x) :
    Calls Try.prog 22 #[.pointer (some ⟨c, 0, none⟩), .int .i64 17, .pointer (some ⟨g, 0, none⟩)] w0 (fun e w' => GQ w0 c F0 g (.tuple #[]) (pArgs 17 x) e w' ∧ Ok (argLay dv) 18000000 (pArgs 17 x)) := by
  have K0 : Hid (Ok (argLay dv) 0 x) := hk
  have A0 : Hid (At w0 c F0 g x) := h
  have G0 : Hid (GG w0 F0 g w0 F0) := GG.refl _ _ _
  clear h hk
  go_enter Try.func22, Try.ntmps22
  obtain ⟨y1, e1⟩ : ∃ z, z = pText 64 0 (x) := ⟨_, rfl⟩
  have K1 : Hid (Ok (argLay dv) 2000008 y1) := by rw [e1]; exact (K0.out.text (o := 0) (most := 64) ⟨by decide, by decide⟩ rfl).mono (by decide)
  have C1 := A0.out.text K0.out (by decide) (o := 0) (most := 64) rfl
  rw [← e1] at C1
  have D1 := hid C1; have E1 := hid e1; clear C1 e1
  go_wp2_with fail
  refine D1.out.mono ?_
  rintro e w1 ⟨rfl, F1, A1, g1⟩
  have G1 := hid (G0.out.trans g1.out); clear D1 g1
  obtain ⟨y2, e2⟩ : ∃ z, z = nums 8 .u64 [30, 31] (y1) := ⟨_, rfl⟩
  have K2 : Hid (Ok (argLay dv) 2000024 y2) := by rw [e2]; exact ((K1.out.num8 (o := 30) rfl).num8 (o := 31) rfl).mono (by decide)
  have C2 := fun w' (hm : Mods (fun _ => False) w1 w') => (A1.out.keep hm).u64s K1.out (by decide) (o := 30) (o2 := 31) 125 rfl rfl
  rw [← e2] at C2
  have D2 := hid C2; have E2 := hid e2; clear C2 e2
  go_wp2_with fail
  go_region_with (refine (D2.out _ (Mods.drew _ _)).mono ?_; rintro e w2 ⟨rfl, F2, A2, g2⟩; have G2 := hid (G1.out.trans ((GG.new g (Mods.drew _ _)).trans g2.out)); clear D2 g2)
  obtain ⟨y3, e3⟩ : ∃ z, z = nums 4 .u32 [32, 33] (y2) := ⟨_, rfl⟩
  have K3 : Hid (Ok (argLay dv) 2000032 y3) := by rw [e3]; exact ((K2.out.num1 (o := 32) rfl).num1 (o := 33) rfl).mono (by decide)
  have C3 := fun w' (hm : Mods (fun _ => False) w2 w') => (A2.out.keep hm).u32s K2.out (by decide) (o := 32) (o2 := 33) 123 rfl rfl
  rw [← e3] at C3
  have D3 := hid C3; have E3 := hid e3; clear C3 e3
  go_wp2_with fail
  go_region_with (refine (D3.out _ (Mods.drew _ _)).mono ?_; rintro e w3 ⟨rfl, F3, A3, g3⟩; have G3 := hid (G2.out.trans ((GG.new g (Mods.drew _ _)).trans g3.out)); clear D3 g3)
  go_wp2
  go_end0
  have hend : pArgs 17 x = y3 := by
    obtain rfl := E3.out
    obtain rfl := E2.out
    obtain rfl := E1.out
    rfl
  rw [hend]
  exact ⟨⟨rfl, F3, A3, G3⟩, K3.out.mono (by decide)⟩

set_option maxRecDepth 100000 in
set_option maxHeartbeats 4000000 in
theorem args_18 (c : Nat) (F0 : Nat → Prop) (g : Nat) (x : X) (dv : Value) (w0 : World) (h : At w0 c F0 g x) (hk : Ok (argLay dv) 0 x) :
    Calls Try.prog 22 #[.pointer (some ⟨c, 0, none⟩), .int .i64 18, .pointer (some ⟨g, 0, none⟩)] w0 (fun e w' => GQ w0 c F0 g (.tuple #[]) (pArgs 18 x) e w' ∧ Ok (argLay dv) 18000000 (pArgs 18 x)) := by
  have K0 : Hid (Ok (argLay dv) 0 x) := hk
  have A0 : Hid (At w0 c F0 g x) := h
  have G0 : Hid (GG w0 F0 g w0 F0) := GG.refl _ _ _
  clear h hk
  go_enter Try.func22, Try.ntmps22
  obtain ⟨y1, e1⟩ : ∃ z, z = pText 64 0 (x) := ⟨_, rfl⟩
  have K1 : Hid (Ok (argLay dv) 2000008 y1) := by rw [e1]; exact (K0.out.text (o := 0) (most := 64) ⟨by decide, by decide⟩ rfl).mono (by decide)
  have C1 := A0.out.text K0.out (by decide) (o := 0) (most := 64) rfl
  rw [← e1] at C1
  have D1 := hid C1; have E1 := hid e1; clear C1 e1
  go_wp2_with fail
  refine D1.out.mono ?_
  rintro e w1 ⟨rfl, F1, A1, g1⟩
  have G1 := hid (G0.out.trans g1.out); clear D1 g1
  go_wp2
  go_end0
  have hend : pArgs 18 x = y1 := by
    obtain rfl := E1.out
    rfl
  rw [hend]
  exact ⟨⟨rfl, F1, A1, G1⟩, K1.out.mono (by decide)⟩

set_option maxRecDepth 100000 in
set_option maxHeartbeats 4000000 in
theorem args_19 (c : Nat) (F0 : Nat → Prop) (g : Nat) (x : X) (dv : Value) (w0 : World) (h : At w0 c F0 g x) (hk : Ok (argLay dv) 0 x) :
    Calls Try.prog 22 #[.pointer (some ⟨c, 0, none⟩), .int .i64 19, .pointer (some ⟨g, 0, none⟩)] w0 (fun e w' => GQ w0 c F0 g (.tuple #[]) (pArgs 19 x) e w' ∧ Ok (argLay dv) 18000000 (pArgs 19 x)) := by
  have K0 : Hid (Ok (argLay dv) 0 x) := hk
  have A0 : Hid (At w0 c F0 g x) := h
  have G0 : Hid (GG w0 F0 g w0 F0) := GG.refl _ _ _
  clear h hk
  go_enter Try.func22, Try.ntmps22
  obtain ⟨y1, e1⟩ : ∃ z, z = pText 64 0 (x) := ⟨_, rfl⟩
  have K1 : Hid (Ok (argLay dv) 2000008 y1) := by rw [e1]; exact (K0.out.text (o := 0) (most := 64) ⟨by decide, by decide⟩ rfl).mono (by decide)
  have C1 := A0.out.text K0.out (by decide) (o := 0) (most := 64) rfl
  rw [← e1] at C1
  have D1 := hid C1; have E1 := hid e1; clear C1 e1
  go_wp2_with fail
  refine D1.out.mono ?_
  rintro e w1 ⟨rfl, F1, A1, g1⟩
  have G1 := hid (G0.out.trans g1.out); clear D1 g1
  go_wp2
  go_end0
  have hend : pArgs 19 x = y1 := by
    obtain rfl := E1.out
    rfl
  rw [hend]
  exact ⟨⟨rfl, F1, A1, G1⟩, K1.out.mono (by decide)⟩

set_option maxRecDepth 100000 in
set_option maxHeartbeats 4000000 in
theorem args_20 (c : Nat) (F0 : Nat → Prop) (g : Nat) (x : X) (dv : Value) (w0 : World) (h : At w0 c F0 g x) (hk : Ok (argLay dv) 0 x) :
    Calls Try.prog 22 #[.pointer (some ⟨c, 0, none⟩), .int .i64 20, .pointer (some ⟨g, 0, none⟩)] w0 (fun e w' => GQ w0 c F0 g (.tuple #[]) (pArgs 20 x) e w' ∧ Ok (argLay dv) 18000000 (pArgs 20 x)) := by
  have K0 : Hid (Ok (argLay dv) 0 x) := hk
  have A0 : Hid (At w0 c F0 g x) := h
  have G0 : Hid (GG w0 F0 g w0 F0) := GG.refl _ _ _
  clear h hk
  go_enter Try.func22, Try.ntmps22
  obtain ⟨y1, e1⟩ : ∃ z, z = pText 64 0 (x) := ⟨_, rfl⟩
  have K1 : Hid (Ok (argLay dv) 2000008 y1) := by rw [e1]; exact (K0.out.text (o := 0) (most := 64) ⟨by decide, by decide⟩ rfl).mono (by decide)
  have C1 := A0.out.text K0.out (by decide) (o := 0) (most := 64) rfl
  rw [← e1] at C1
  have D1 := hid C1; have E1 := hid e1; clear C1 e1
  go_wp2_with fail
  refine D1.out.mono ?_
  rintro e w1 ⟨rfl, F1, A1, g1⟩
  have G1 := hid (G0.out.trans g1.out); clear D1 g1
  go_wp2
  go_end0
  have hend : pArgs 20 x = y1 := by
    obtain rfl := E1.out
    rfl
  rw [hend]
  exact ⟨⟨rfl, F1, A1, G1⟩, K1.out.mono (by decide)⟩

set_option maxRecDepth 100000 in
set_option maxHeartbeats 4000000 in
theorem args_21 (c : Nat) (F0 : Nat → Prop) (g : Nat) (x : X) (dv : Value) (w0 : World) (h : At w0 c F0 g x) (hk : Ok (argLay dv) 0 x) :
    Calls Try.prog 22 #[.pointer (some ⟨c, 0, none⟩), .int .i64 21, .pointer (some ⟨g, 0, none⟩)] w0 (fun e w' => GQ w0 c F0 g (.tuple #[]) (pArgs 21 x) e w' ∧ Ok (argLay dv) 18000000 (pArgs 21 x)) := by
  have K0 : Hid (Ok (argLay dv) 0 x) := hk
  have A0 : Hid (At w0 c F0 g x) := h
  have G0 : Hid (GG w0 F0 g w0 F0) := GG.refl _ _ _
  clear h hk
  go_enter Try.func22, Try.ntmps22
  obtain ⟨y1, e1⟩ : ∃ z, z = pText 64 0 (x) := ⟨_, rfl⟩
  have K1 : Hid (Ok (argLay dv) 2000008 y1) := by rw [e1]; exact (K0.out.text (o := 0) (most := 64) ⟨by decide, by decide⟩ rfl).mono (by decide)
  have C1 := A0.out.text K0.out (by decide) (o := 0) (most := 64) rfl
  rw [← e1] at C1
  have D1 := hid C1; have E1 := hid e1; clear C1 e1
  go_wp2_with fail
  refine D1.out.mono ?_
  rintro e w1 ⟨rfl, F1, A1, g1⟩
  have G1 := hid (G0.out.trans g1.out); clear D1 g1
  obtain ⟨y2, e2⟩ : ∃ z, z = num1 8 .u64 23 (y1) := ⟨_, rfl⟩
  have K2 : Hid (Ok (argLay dv) 2000016 y2) := by rw [e2]; exact (K1.out.num8 (o := 23) rfl).mono (by decide)
  have C2 := A1.out.u64 K1.out (by decide) (o := 23) 125 rfl
  rw [← e2] at C2
  have D2 := hid C2; have E2 := hid e2; clear C2 e2
  go_wp2_with fail
  refine D2.out.mono ?_
  rintro e w2 ⟨rfl, F2, A2, g2⟩
  have G2 := hid (G1.out.trans g2.out); clear D2 g2
  obtain ⟨y3, e3⟩ : ∃ z, z = num1 4 .u32 24 (y2) := ⟨_, rfl⟩
  have K3 : Hid (Ok (argLay dv) 2000020 y3) := by rw [e3]; exact (K2.out.num1 (o := 24) rfl).mono (by decide)
  have C3 := A2.out.u32 K2.out (by decide) (o := 24) 123 rfl
  rw [← e3] at C3
  have D3 := hid C3; have E3 := hid e3; clear C3 e3
  go_wp2_with fail
  refine D3.out.mono ?_
  rintro e w3 ⟨rfl, F3, A3, g3⟩
  have G3 := hid (G2.out.trans g3.out); clear D3 g3
  go_wp2
  go_end0
  have hend : pArgs 21 x = y3 := by
    obtain rfl := E3.out
    obtain rfl := E2.out
    obtain rfl := E1.out
    rfl
  rw [hend]
  exact ⟨⟨rfl, F3, A3, G3⟩, K3.out.mono (by decide)⟩

set_option maxRecDepth 100000 in
set_option maxHeartbeats 4000000 in
theorem args_100 (c : Nat) (F0 : Nat → Prop) (g : Nat) (x : X) (dv : Value) (w0 : World) (h : At w0 c F0 g x) (hk : Ok (argLay dv) 0 x) :
    Calls Try.prog 22 #[.pointer (some ⟨c, 0, none⟩), .int .i64 100, .pointer (some ⟨g, 0, none⟩)] w0 (fun e w' => GQ w0 c F0 g (.tuple #[]) (pArgs 100 x) e w' ∧ Ok (argLay dv) 18000000 (pArgs 100 x)) := by
  have K0 : Hid (Ok (argLay dv) 0 x) := hk
  have A0 : Hid (At w0 c F0 g x) := h
  have G0 : Hid (GG w0 F0 g w0 F0) := GG.refl _ _ _
  clear h hk
  go_enter Try.func22, Try.ntmps22
  go_wp2
  ((try simp only [Exit.inBlock, Exit.then]); refine bodyPost_ret (results_none rfl _ _ _) rfl ?_)
  have hend : pArgs 100 x = x := by
    rfl
  rw [hend]
  exact ⟨⟨rfl, F0, A0, G0⟩, K0.out.mono (by decide)⟩

set_option maxRecDepth 100000 in
set_option maxHeartbeats 4000000 in
theorem args_101 (c : Nat) (F0 : Nat → Prop) (g : Nat) (x : X) (dv : Value) (w0 : World) (h : At w0 c F0 g x) (hk : Ok (argLay dv) 0 x) :
    Calls Try.prog 22 #[.pointer (some ⟨c, 0, none⟩), .int .i64 101, .pointer (some ⟨g, 0, none⟩)] w0 (fun e w' => GQ w0 c F0 g (.tuple #[]) (pArgs 101 x) e w' ∧ Ok (argLay dv) 18000000 (pArgs 101 x)) := by
  have K0 : Hid (Ok (argLay dv) 0 x) := hk
  have A0 : Hid (At w0 c F0 g x) := h
  have G0 : Hid (GG w0 F0 g w0 F0) := GG.refl _ _ _
  clear h hk
  go_enter Try.func22, Try.ntmps22
  obtain ⟨y1, e1⟩ : ∃ z, z = pText 1024 4 (x) := ⟨_, rfl⟩
  have K1 : Hid (Ok (argLay dv) 2000008 y1) := by rw [e1]; exact (K0.out.text (o := 4) (most := 1024) ⟨by decide, by decide⟩ rfl).mono (by decide)
  have C1 := A0.out.text K0.out (by decide) (o := 4) (most := 1024) rfl
  rw [← e1] at C1
  have D1 := hid C1; have E1 := hid e1; clear C1 e1
  go_wp2_with fail
  refine D1.out.mono ?_
  rintro e w1 ⟨rfl, F1, A1, g1⟩
  have G1 := hid (G0.out.trans g1.out); clear D1 g1
  go_wp2
  ((try simp only [Exit.inBlock, Exit.then]); refine bodyPost_ret (results_none rfl _ _ _) rfl ?_)
  have hend : pArgs 101 x = y1 := by
    obtain rfl := E1.out
    rfl
  rw [hend]
  exact ⟨⟨rfl, F1, A1, G1⟩, K1.out.mono (by decide)⟩

set_option maxRecDepth 100000 in
set_option maxHeartbeats 4000000 in
theorem args_102 (c : Nat) (F0 : Nat → Prop) (g : Nat) (x : X) (dv : Value) (w0 : World) (h : At w0 c F0 g x) (hk : Ok (argLay dv) 0 x) :
    Calls Try.prog 22 #[.pointer (some ⟨c, 0, none⟩), .int .i64 102, .pointer (some ⟨g, 0, none⟩)] w0 (fun e w' => GQ w0 c F0 g (.tuple #[]) (pArgs 102 x) e w' ∧ Ok (argLay dv) 18000000 (pArgs 102 x)) := by
  have K0 : Hid (Ok (argLay dv) 0 x) := hk
  have A0 : Hid (At w0 c F0 g x) := h
  have G0 : Hid (GG w0 F0 g w0 F0) := GG.refl _ _ _
  clear h hk
  go_enter Try.func22, Try.ntmps22
  go_wp2
  ((try simp only [Exit.inBlock, Exit.then]); refine bodyPost_ret (results_none rfl _ _ _) rfl ?_)
  have hend : pArgs 102 x = x := by
    rfl
  rw [hend]
  exact ⟨⟨rfl, F0, A0, G0⟩, K0.out.mono (by decide)⟩

set_option maxRecDepth 100000 in
set_option maxHeartbeats 4000000 in
theorem args_103 (c : Nat) (F0 : Nat → Prop) (g : Nat) (x : X) (dv : Value) (w0 : World) (h : At w0 c F0 g x) (hk : Ok (argLay dv) 0 x) :
    Calls Try.prog 22 #[.pointer (some ⟨c, 0, none⟩), .int .i64 103, .pointer (some ⟨g, 0, none⟩)] w0 (fun e w' => GQ w0 c F0 g (.tuple #[]) (pArgs 103 x) e w' ∧ Ok (argLay dv) 18000000 (pArgs 103 x)) := by
  have K0 : Hid (Ok (argLay dv) 0 x) := hk
  have A0 : Hid (At w0 c F0 g x) := h
  have G0 : Hid (GG w0 F0 g w0 F0) := GG.refl _ _ _
  clear h hk
  go_enter Try.func22, Try.ntmps22
  obtain ⟨y1, e1⟩ : ∃ z, z = pText 1024 4 (x) := ⟨_, rfl⟩
  have K1 : Hid (Ok (argLay dv) 2000008 y1) := by rw [e1]; exact (K0.out.text (o := 4) (most := 1024) ⟨by decide, by decide⟩ rfl).mono (by decide)
  have C1 := A0.out.text K0.out (by decide) (o := 4) (most := 1024) rfl
  rw [← e1] at C1
  have D1 := hid C1; have E1 := hid e1; clear C1 e1
  go_wp2_with fail
  refine D1.out.mono ?_
  rintro e w1 ⟨rfl, F1, A1, g1⟩
  have G1 := hid (G0.out.trans g1.out); clear D1 g1
  go_wp2
  ((try simp only [Exit.inBlock, Exit.then]); refine bodyPost_ret (results_none rfl _ _ _) rfl ?_)
  have hend : pArgs 103 x = y1 := by
    obtain rfl := E1.out
    rfl
  rw [hend]
  exact ⟨⟨rfl, F1, A1, G1⟩, K1.out.mono (by decide)⟩

set_option maxRecDepth 100000 in
set_option maxHeartbeats 4000000 in
theorem args_104 (c : Nat) (F0 : Nat → Prop) (g : Nat) (x : X) (dv : Value) (w0 : World) (h : At w0 c F0 g x) (hk : Ok (argLay dv) 0 x) :
    Calls Try.prog 22 #[.pointer (some ⟨c, 0, none⟩), .int .i64 104, .pointer (some ⟨g, 0, none⟩)] w0 (fun e w' => GQ w0 c F0 g (.tuple #[]) (pArgs 104 x) e w' ∧ Ok (argLay dv) 18000000 (pArgs 104 x)) := by
  have K0 : Hid (Ok (argLay dv) 0 x) := hk
  have A0 : Hid (At w0 c F0 g x) := h
  have G0 : Hid (GG w0 F0 g w0 F0) := GG.refl _ _ _
  clear h hk
  go_enter Try.func22, Try.ntmps22
  go_wp2
  ((try simp only [Exit.inBlock, Exit.then]); refine bodyPost_ret (results_none rfl _ _ _) rfl ?_)
  have hend : pArgs 104 x = x := by
    rfl
  rw [hend]
  exact ⟨⟨rfl, F0, A0, G0⟩, K0.out.mono (by decide)⟩

set_option maxRecDepth 100000 in
set_option maxHeartbeats 4000000 in
theorem args_105 (c : Nat) (F0 : Nat → Prop) (g : Nat) (x : X) (dv : Value) (w0 : World) (h : At w0 c F0 g x) (hk : Ok (argLay dv) 0 x) :
    Calls Try.prog 22 #[.pointer (some ⟨c, 0, none⟩), .int .i64 105, .pointer (some ⟨g, 0, none⟩)] w0 (fun e w' => GQ w0 c F0 g (.tuple #[]) (pArgs 105 x) e w' ∧ Ok (argLay dv) 18000000 (pArgs 105 x)) := by
  have K0 : Hid (Ok (argLay dv) 0 x) := hk
  have A0 : Hid (At w0 c F0 g x) := h
  have G0 : Hid (GG w0 F0 g w0 F0) := GG.refl _ _ _
  clear h hk
  go_enter Try.func22, Try.ntmps22
  go_wp2
  ((try simp only [Exit.inBlock, Exit.then]); refine bodyPost_ret (results_none rfl _ _ _) rfl ?_)
  have hend : pArgs 105 x = x := by
    rfl
  rw [hend]
  exact ⟨⟨rfl, F0, A0, G0⟩, K0.out.mono (by decide)⟩

set_option maxRecDepth 100000 in
set_option maxHeartbeats 4000000 in
theorem args_7 (c : Nat) (F0 : Nat → Prop) (g : Nat) (x : X) (xo : Option Addr) (xc : Nat) (ds : List UInt8) (dv : Value) (hdv : dv = .slice xo ds.length xc) (w0 : World) (h : At w0 c F0 g x) (hk : Ok (argLay dv) 0 x) (hs : SlB w0 xo xc ds) (hxb : ∀ k, rb xo ds.length k → k < w0.heap.size ∧ ¬ F0 k ∧ k ≠ g) (hlen : ds.length ≤ 2000000) :
    Calls Try.prog 22 #[.pointer (some ⟨c, 0, none⟩), .int .i64 7, .pointer (some ⟨g, 0, none⟩)] w0 (fun e w' => RowP w0 c F0 g 28 xo ds.length ((pArgs 7 x).1.row 8192 ds).2 ((pArgs 7 x).1.row 8192 ds).1 (pArgs 7 x).2 e w' ∧ Ok (argLay dv) 4000000 (pArgs 7 x)) := by
  have K0 : Hid (Ok (argLay dv) 0 x) := hk
  have A0 : Hid (At w0 c F0 g x) := h
  have G0 : Hid (GG w0 F0 g w0 F0) := GG.refl _ _ _
  have HS := hid hs; have HX := hid hxb; have HDV := hid hdv; have HLN := hid hlen
  clear h hk hs hxb hdv hlen
  go_enter Try.func22, Try.ntmps22
  obtain ⟨y1, e1⟩ : ∃ z, z = pText 64 0 (x) := ⟨_, rfl⟩
  have K1 : Hid (Ok (argLay dv) 2000008 y1) := by rw [e1]; exact (K0.out.text (o := 0) (most := 64) ⟨by decide, by decide⟩ rfl).mono (by decide)
  have C1 := A0.out.text K0.out (by decide) (o := 0) (most := 64) rfl
  rw [← e1] at C1
  have D1 := hid C1; have E1 := hid e1; clear C1 e1
  go_wp2_with fail
  refine D1.out.mono ?_
  rintro e w1 ⟨rfl, F1, A1, g1⟩
  have G1 := hid (G0.out.trans g1.out); clear D1 g1
  obtain ⟨y2, e2⟩ : ∃ z, z = num1 8 .u64 23 (y1) := ⟨_, rfl⟩
  have K2 : Hid (Ok (argLay dv) 2000016 y2) := by rw [e2]; exact (K1.out.num8 (o := 23) rfl).mono (by decide)
  have C2 := A1.out.u64 K1.out (by decide) (o := 23) 125 rfl
  rw [← e2] at C2
  have D2 := hid C2; have E2 := hid e2; clear C2 e2
  go_wp2_with fail
  refine D2.out.mono ?_
  rintro e w2 ⟨rfl, F2, A2, g2⟩
  have G2 := hid (G1.out.trans g2.out); clear D2 g2
  obtain ⟨y3, e3⟩ : ∃ z, z = num1 4 .u32 24 (y2) := ⟨_, rfl⟩
  have K3 : Hid (Ok (argLay dv) 2000020 y3) := by rw [e3]; exact (K2.out.num1 (o := 24) rfl).mono (by decide)
  have C3 := A2.out.u32 K2.out (by decide) (o := 24) 123 rfl
  rw [← e3] at C3
  have D3 := hid C3; have E3 := hid e3; clear C3 e3
  go_wp2_with fail
  refine D3.out.mono ?_
  rintro e w3 ⟨rfl, F3, A3, g3⟩
  have G3 := hid (G2.out.trans g3.out); clear D3 g3
  obtain ⟨y4, e4⟩ : ∃ z, z = pNumber 0 2 25 (y3) := ⟨_, rfl⟩
  have K4 : Hid (Ok (argLay dv) 2000024 y4) := by rw [e4]; exact (K3.out.number (o := 25) (lo := 0) (hi := 2) rfl).mono (by decide)
  have C4 := A3.out.number K3.out (by decide) (o := 25) (lo := 0) (hi := 2) rfl
  rw [← e4] at C4
  have D4 := hid C4; have E4 := hid e4; clear C4 e4
  go_wp2_with fail
  refine D4.out.mono ?_
  rintro e w4 ⟨rfl, F4, A4, g4⟩
  have G4 := hid (G3.out.trans g4.out); clear D4 g4
  have hend : pArgs 7 x = y4 := by
    obtain rfl := E4.out
    obtain rfl := E3.out
    obtain rfl := E2.out
    obtain rfl := E1.out
    rfl
  have hdata : y4.2 28 = some (.slice xo ds.length xc) := by
    have h1 : y4.2 28 = some dv := K4.out.ty 28 _ rfl
    rw [h1, HDV.out]
  have hs4 : SlB w4 xo xc ds := HS.out.keep G4.out.mods fun k hk hf => hf.elim (HX.out k hk).2.1 (HX.out k hk).2.2
  have hsz := K4.out.size
  have hln := HLN.out
  have D5 := hid (row_gen c F4 y4.1 g y4.2 28 8192 xo xc ds w4 A4.out.co A4.out.bl A4.out.ap (by omega) hdata hs4 (fun k hk => ⟨Nat.lt_of_lt_of_le (HX.out k hk).1 G4.out.mods.size, G4.out.apart (HX.out k hk).2.1 (HX.out k hk).1, (HX.out k hk).2.2⟩))
  have HEND := hid hend
  clear hdata hs4 hsz hln hend
  go_wp2_with fail
  refine D5.out.mono ?_
  rintro e w5 ⟨F5, yo, yc, rfl, q1, q2, q3, q4, q5⟩
  have Q1 := hid q1; have Q2 := hid (G4.out.trans q2); have Q3 := hid q3; have Q4 := hid q4; have Q5 := hid q5
  clear q1 q2 q3 q4 q5 D5
  go_wp2
  go_end0
  rw [HEND.out]
  exact ⟨⟨F5, yo, yc, rfl, Q1.out, Q2.out, Q3.out, Q4.out, fun k hk => by
    obtain ⟨a1, a2, a3, a4⟩ := Q5.out k hk
    exact ⟨a1, a2, a3, a4.imp id fun h => Nat.le_trans G4.out.mods.size h⟩⟩, K4.out.mono (by decide)⟩

end Go.Proofs.Ytanknjpcgceccaa
