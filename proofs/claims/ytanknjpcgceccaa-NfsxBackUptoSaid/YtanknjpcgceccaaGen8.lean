/- nfsx's coder: named, procedure by procedure. (Printed by wip/tools/gen_gen8.py.) -/
import Derived.Test.YtanknjpcgceccaaGen7
namespace Go.Proofs.Ytanknjpcgceccaa
open Go.RowKit

def argLay (dv : Value) : List Ty := [.str, .str, .str, .str, .str, .bool, .bool, .bool, .bool, .int, .u32, .u32, .u64, .int, .int, .u32, .u32, .u32, .u32, .bool, .u32, .u32, .u32, .u64, .u32, .int, .int, .int, .is dv, .u64, .u64, .u64, .u32, .u32, .u32, .u32]
theorem sat_in (dv : Value) : ∀ j t, satLay[j]? = some t → (argLay dv)[5 + j]? = some t := by
  intro j t h
  have hj : j < 14 := (List.getElem?_eq_some_iff.1 h).1
  match j, hj with
  | 0, _ => exact h
  | 1, _ => exact h
  | 2, _ => exact h
  | 3, _ => exact h
  | 4, _ => exact h
  | 5, _ => exact h
  | 6, _ => exact h
  | 7, _ => exact h
  | 8, _ => exact h
  | 9, _ => exact h
  | 10, _ => exact h
  | 11, _ => exact h
  | 12, _ => exact h
  | 13, _ => exact h
theorem Ok.set {dv : Value} {n : Nat} {x : X} (h : Ok (argLay dv) n x) : Ok (argLay dv) (n + 60) (pSet 5 x) := by
  have h1 := h.truth (o := 5) rfl
  have h2 := h1.pif (o := 5) (h1.number (lo := 0) (hi := 4294967295) (o := 9) rfl)
  have h3 := h2.truth (o := 6) rfl
  have h4 := h3.pif (o := 6) (h3.num1 (o := 10) rfl)
  have h5 := h4.truth (o := 7) rfl
  have h6 := h5.pif (o := 7) (h5.num1 (o := 11) rfl)
  have h7 := h6.truth (o := 8) rfl
  have h8 := h7.pif (o := 8) (h7.num8 (o := 12) rfl)
  exact ((h8.how (v := 13) (t := 15) rfl rfl rfl).how (v := 14) (t := 17) rfl rfl rfl).mono (by omega)

def pNamed : Nat → X → X
  | 8, x => let y := pNumber 0 2 26 x; if iv (y.2 26) = 2 then num1 8 .u64 29 y else pSet 5 y
  | 9, x => pSet 5 x
  | 10, x => pText 1024 4 (pSet 5 x)
  | 11, x => let y := pNumber 1 7 27 x; let d := iv (y.2 27); if d = 3 then nums 4 .u32 [34, 35] (pSet 5 y) else if d = 4 then nums 4 .u32 [34, 35] (pSet 5 y) else if d = 6 then pSet 5 y else if d = 7 then pSet 5 y else y
  | 14, x => pText 255 3 (pText 64 1 x)
  | _, x => x

set_option maxRecDepth 100000 in
set_option maxHeartbeats 4000000 in
theorem named_3 (c : Nat) (F0 : Nat → Prop) (g : Nat) (x : X) (dv : Value) (w0 : World) (h : At w0 c F0 g x) (hk : Ok (argLay dv) 6000000 x) :
    Calls Try.prog 59 #[.pointer (some ⟨c, 0, none⟩), .int .i64 3, .pointer (some ⟨g, 0, none⟩)] w0 (fun e w' => GQ w0 c F0 g (.tuple #[]) (pNamed 3 x) e w' ∧ Ok (argLay dv) 18000000 (pNamed 3 x)) := by
  have K0 : Hid (Ok (argLay dv) 6000000 x) := hk
  have A0 : Hid (At w0 c F0 g x) := h
  have G0 : Hid (GG w0 F0 g w0 F0) := GG.refl _ _ _
  clear h hk
  go_enter Try.func59, Try.ntmps59
  go_wp2
  go_end0
  have hend : pNamed 3 x = x := by
    rfl
  rw [hend]
  exact ⟨⟨rfl, F0, A0, G0⟩, K0.out.mono (by decide)⟩

set_option maxRecDepth 100000 in
set_option maxHeartbeats 4000000 in
theorem named_8 (c : Nat) (F0 : Nat → Prop) (g : Nat) (x : X) (dv : Value) (w0 : World) (h : At w0 c F0 g x) (hk : Ok (argLay dv) 6000000 x) :
    Calls Try.prog 59 #[.pointer (some ⟨c, 0, none⟩), .int .i64 8, .pointer (some ⟨g, 0, none⟩)] w0 (fun e w' => GQ w0 c F0 g (.tuple #[]) (pNamed 8 x) e w' ∧ Ok (argLay dv) 18000000 (pNamed 8 x)) := by
  have K0 : Hid (Ok (argLay dv) 6000000 x) := hk
  have A0 : Hid (At w0 c F0 g x) := h
  have G0 : Hid (GG w0 F0 g w0 F0) := GG.refl _ _ _
  clear h hk
  go_enter Try.func59, Try.ntmps59
  obtain ⟨y1, e1⟩ : ∃ z, z = pNumber 0 2 26 (x) := ⟨_, rfl⟩
  have K1 : Hid (Ok (argLay dv) 6000004 y1) := by rw [e1]; exact (K0.out.number (o := 26) (lo := 0) (hi := 2) rfl).mono (by decide)
  have C1 := A0.out.number K0.out (by decide) (o := 26) (lo := 0) (hi := 2) rfl
  rw [← e1] at C1
  have D1 := hid C1; have E1 := hid e1; clear C1 e1
  go_wp2_with fail
  refine D1.out.mono ?_
  rintro e w1 ⟨rfl, F1, A1, g1⟩
  have G1 := hid (G0.out.trans g1.out); clear D1 g1
  have hcv := (K1.out.ty 26 _ rfl).iv
  obtain ⟨d, hd⟩ : ∃ d, d = iv (y1.2 26) := ⟨_, rfl⟩
  rw [← hd] at hcv
  have hcell := (A1.out.bl.cell 26).trans hcv
  have HD := hid hd
  clear hcv hd
  by_cases hc : d = 2
  · subst hc
    obtain ⟨y2, e2⟩ : ∃ z, z = num1 8 .u64 29 (y1) := ⟨_, rfl⟩
    have K2 : Hid (Ok (argLay dv) 6000012 y2) := by rw [e2]; exact (K1.out.num8 (o := 29) rfl).mono (by decide)
    have C2 := A1.out.u64 K1.out (by decide) (o := 29) 125 rfl
    rw [← e2] at C2
    have D2 := hid C2; have E2 := hid e2; clear C2 e2
    go_wp2_with fail
    refine D2.out.mono ?_
    rintro e w2 ⟨rfl, F2, A2, g2⟩
    have G2 := hid (G1.out.trans g2.out); clear D2 g2
    go_wp2
    go_end0
    have hend : pNamed 8 x = y2 := by
      obtain rfl := E2.out
      obtain rfl := E1.out
      simp only [pNamed]
      simp [← HD.out]
    rw [hend]
    exact ⟨⟨rfl, F2, A2, G2⟩, K2.out.mono (by decide)⟩
  have hc2 : (d == 2) = false := by simpa using hc
  have HN2 := hid hc
  clear hc
  obtain ⟨y2, e2⟩ : ∃ z, z = pSet 5 (y1) := ⟨_, rfl⟩
  have K2 : Hid (Ok (argLay dv) 6000064 y2) := by rw [e2]; exact (Ok.set K1.out).mono (by decide)
  have C2 := set_gen c F1 g y1 (argLay dv) 6000004 5 w1 A1.out K1.out (by decide) (sat_in dv)
  rw [← e2] at C2
  have D2 := hid C2; have E2 := hid e2; clear C2 e2
  go_wp2_with fail
  refine D2.out.mono ?_
  rintro e w2 ⟨⟨rfl, F2, A2, g2⟩, _⟩
  have G2 := hid (G1.out.trans g2.out); clear D2 g2
  go_wp2
  go_end0
  have hend : pNamed 8 x = y2 := by
    obtain rfl := E2.out
    obtain rfl := E1.out
    simp only [pNamed]
    simp [HN2.out, ← HD.out]
  rw [hend]
  exact ⟨⟨rfl, F2, A2, G2⟩, K2.out.mono (by decide)⟩

set_option maxRecDepth 100000 in
set_option maxHeartbeats 4000000 in
theorem named_9 (c : Nat) (F0 : Nat → Prop) (g : Nat) (x : X) (dv : Value) (w0 : World) (h : At w0 c F0 g x) (hk : Ok (argLay dv) 6000000 x) :
    Calls Try.prog 59 #[.pointer (some ⟨c, 0, none⟩), .int .i64 9, .pointer (some ⟨g, 0, none⟩)] w0 (fun e w' => GQ w0 c F0 g (.tuple #[]) (pNamed 9 x) e w' ∧ Ok (argLay dv) 18000000 (pNamed 9 x)) := by
  have K0 : Hid (Ok (argLay dv) 6000000 x) := hk
  have A0 : Hid (At w0 c F0 g x) := h
  have G0 : Hid (GG w0 F0 g w0 F0) := GG.refl _ _ _
  clear h hk
  go_enter Try.func59, Try.ntmps59
  obtain ⟨y1, e1⟩ : ∃ z, z = pSet 5 (x) := ⟨_, rfl⟩
  have K1 : Hid (Ok (argLay dv) 6000060 y1) := by rw [e1]; exact (Ok.set K0.out).mono (by decide)
  have C1 := set_gen c F0 g x (argLay dv) 6000000 5 w0 A0.out K0.out (by decide) (sat_in dv)
  rw [← e1] at C1
  have D1 := hid C1; have E1 := hid e1; clear C1 e1
  go_wp2_with fail
  refine D1.out.mono ?_
  rintro e w1 ⟨⟨rfl, F1, A1, g1⟩, _⟩
  have G1 := hid (G0.out.trans g1.out); clear D1 g1
  go_wp2
  go_end0
  have hend : pNamed 9 x = y1 := by
    obtain rfl := E1.out
    rfl
  rw [hend]
  exact ⟨⟨rfl, F1, A1, G1⟩, K1.out.mono (by decide)⟩

set_option maxRecDepth 100000 in
set_option maxHeartbeats 4000000 in
theorem named_10 (c : Nat) (F0 : Nat → Prop) (g : Nat) (x : X) (dv : Value) (w0 : World) (h : At w0 c F0 g x) (hk : Ok (argLay dv) 6000000 x) :
    Calls Try.prog 59 #[.pointer (some ⟨c, 0, none⟩), .int .i64 10, .pointer (some ⟨g, 0, none⟩)] w0 (fun e w' => GQ w0 c F0 g (.tuple #[]) (pNamed 10 x) e w' ∧ Ok (argLay dv) 18000000 (pNamed 10 x)) := by
  have K0 : Hid (Ok (argLay dv) 6000000 x) := hk
  have A0 : Hid (At w0 c F0 g x) := h
  have G0 : Hid (GG w0 F0 g w0 F0) := GG.refl _ _ _
  clear h hk
  go_enter Try.func59, Try.ntmps59
  obtain ⟨y1, e1⟩ : ∃ z, z = pSet 5 (x) := ⟨_, rfl⟩
  have K1 : Hid (Ok (argLay dv) 6000060 y1) := by rw [e1]; exact (Ok.set K0.out).mono (by decide)
  have C1 := set_gen c F0 g x (argLay dv) 6000000 5 w0 A0.out K0.out (by decide) (sat_in dv)
  rw [← e1] at C1
  have D1 := hid C1; have E1 := hid e1; clear C1 e1
  go_wp2_with fail
  refine D1.out.mono ?_
  rintro e w1 ⟨⟨rfl, F1, A1, g1⟩, _⟩
  have G1 := hid (G0.out.trans g1.out); clear D1 g1
  obtain ⟨y2, e2⟩ : ∃ z, z = pText 1024 4 (y1) := ⟨_, rfl⟩
  have K2 : Hid (Ok (argLay dv) 8000068 y2) := by rw [e2]; exact (K1.out.text (o := 4) (most := 1024) ⟨by decide, by decide⟩ rfl).mono (by decide)
  have C2 := A1.out.text K1.out (by decide) (o := 4) (most := 1024) rfl
  rw [← e2] at C2
  have D2 := hid C2; have E2 := hid e2; clear C2 e2
  go_wp2_with fail
  refine D2.out.mono ?_
  rintro e w2 ⟨rfl, F2, A2, g2⟩
  have G2 := hid (G1.out.trans g2.out); clear D2 g2
  go_wp2
  go_end0
  have hend : pNamed 10 x = y2 := by
    obtain rfl := E2.out
    obtain rfl := E1.out
    rfl
  rw [hend]
  exact ⟨⟨rfl, F2, A2, G2⟩, K2.out.mono (by decide)⟩

set_option maxRecDepth 100000 in
set_option maxHeartbeats 4000000 in
theorem named_11 (c : Nat) (F0 : Nat → Prop) (g : Nat) (x : X) (dv : Value) (w0 : World) (h : At w0 c F0 g x) (hk : Ok (argLay dv) 6000000 x) :
    Calls Try.prog 59 #[.pointer (some ⟨c, 0, none⟩), .int .i64 11, .pointer (some ⟨g, 0, none⟩)] w0 (fun e w' => GQ w0 c F0 g (.tuple #[]) (pNamed 11 x) e w' ∧ Ok (argLay dv) 18000000 (pNamed 11 x)) := by
  have K0 : Hid (Ok (argLay dv) 6000000 x) := hk
  have A0 : Hid (At w0 c F0 g x) := h
  have G0 : Hid (GG w0 F0 g w0 F0) := GG.refl _ _ _
  clear h hk
  go_enter Try.func59, Try.ntmps59
  obtain ⟨y1, e1⟩ : ∃ z, z = pNumber 1 7 27 (x) := ⟨_, rfl⟩
  have K1 : Hid (Ok (argLay dv) 6000004 y1) := by rw [e1]; exact (K0.out.number (o := 27) (lo := 1) (hi := 7) rfl).mono (by decide)
  have C1 := A0.out.number K0.out (by decide) (o := 27) (lo := 1) (hi := 7) rfl
  rw [← e1] at C1
  have D1 := hid C1; have E1 := hid e1; clear C1 e1
  go_wp2_with fail
  refine D1.out.mono ?_
  rintro e w1 ⟨rfl, F1, A1, g1⟩
  have G1 := hid (G0.out.trans g1.out); clear D1 g1
  have hcv := (K1.out.ty 27 _ rfl).iv
  obtain ⟨d, hd⟩ : ∃ d, d = iv (y1.2 27) := ⟨_, rfl⟩
  rw [← hd] at hcv
  have hcell := (A1.out.bl.cell 27).trans hcv
  have HD := hid hd
  clear hcv hd
  by_cases hc : d = 3
  · subst hc
    obtain ⟨y2, e2⟩ : ∃ z, z = pSet 5 (y1) := ⟨_, rfl⟩
    have K2 : Hid (Ok (argLay dv) 6000064 y2) := by rw [e2]; exact (Ok.set K1.out).mono (by decide)
    have C2 := set_gen c F1 g y1 (argLay dv) 6000004 5 w1 A1.out K1.out (by decide) (sat_in dv)
    rw [← e2] at C2
    have D2 := hid C2; have E2 := hid e2; clear C2 e2
    go_wp2_with fail
    refine D2.out.mono ?_
    rintro e w2 ⟨⟨rfl, F2, A2, g2⟩, _⟩
    have G2 := hid (G1.out.trans g2.out); clear D2 g2
    obtain ⟨y3, e3⟩ : ∃ z, z = nums 4 .u32 [34, 35] (y2) := ⟨_, rfl⟩
    have K3 : Hid (Ok (argLay dv) 6000072 y3) := by rw [e3]; exact ((K2.out.num1 (o := 34) rfl).num1 (o := 35) rfl).mono (by decide)
    have C3 := fun w' (hm : Mods (fun _ => False) w2 w') => (A2.out.keep hm).u32s K2.out (by decide) (o := 34) (o2 := 35) 123 rfl rfl
    rw [← e3] at C3
    have D3 := hid C3; have E3 := hid e3; clear C3 e3
    go_wp2_with fail
    go_region_with (refine (D3.out _ (Mods.drew _ _)).mono ?_; rintro e w3 ⟨rfl, F3, A3, g3⟩; have G3 := hid (G2.out.trans ((GG.new g (Mods.drew _ _)).trans g3.out)); clear D3 g3)
    go_wp2
    go_end0
    have hend : pNamed 11 x = y3 := by
      obtain rfl := E3.out
      obtain rfl := E2.out
      obtain rfl := E1.out
      simp only [pNamed]
      simp [← HD.out]
    rw [hend]
    exact ⟨⟨rfl, F3, A3, G3⟩, K3.out.mono (by decide)⟩
  have hc3 : (d == 3) = false := by simpa using hc
  have HN3 := hid hc
  clear hc
  by_cases hc : d = 4
  · subst hc
    obtain ⟨y2, e2⟩ : ∃ z, z = pSet 5 (y1) := ⟨_, rfl⟩
    have K2 : Hid (Ok (argLay dv) 6000064 y2) := by rw [e2]; exact (Ok.set K1.out).mono (by decide)
    have C2 := set_gen c F1 g y1 (argLay dv) 6000004 5 w1 A1.out K1.out (by decide) (sat_in dv)
    rw [← e2] at C2
    have D2 := hid C2; have E2 := hid e2; clear C2 e2
    go_wp2_with fail
    refine D2.out.mono ?_
    rintro e w2 ⟨⟨rfl, F2, A2, g2⟩, _⟩
    have G2 := hid (G1.out.trans g2.out); clear D2 g2
    obtain ⟨y3, e3⟩ : ∃ z, z = nums 4 .u32 [34, 35] (y2) := ⟨_, rfl⟩
    have K3 : Hid (Ok (argLay dv) 6000072 y3) := by rw [e3]; exact ((K2.out.num1 (o := 34) rfl).num1 (o := 35) rfl).mono (by decide)
    have C3 := fun w' (hm : Mods (fun _ => False) w2 w') => (A2.out.keep hm).u32s K2.out (by decide) (o := 34) (o2 := 35) 123 rfl rfl
    rw [← e3] at C3
    have D3 := hid C3; have E3 := hid e3; clear C3 e3
    go_wp2_with fail
    go_region_with (refine (D3.out _ (Mods.drew _ _)).mono ?_; rintro e w3 ⟨rfl, F3, A3, g3⟩; have G3 := hid (G2.out.trans ((GG.new g (Mods.drew _ _)).trans g3.out)); clear D3 g3)
    go_wp2
    go_end0
    have hend : pNamed 11 x = y3 := by
      obtain rfl := E3.out
      obtain rfl := E2.out
      obtain rfl := E1.out
      simp only [pNamed]
      simp [HN3.out, ← HD.out]
    rw [hend]
    exact ⟨⟨rfl, F3, A3, G3⟩, K3.out.mono (by decide)⟩
  have hc4 : (d == 4) = false := by simpa using hc
  have HN4 := hid hc
  clear hc
  by_cases hc : d = 6
  · subst hc
    obtain ⟨y2, e2⟩ : ∃ z, z = pSet 5 (y1) := ⟨_, rfl⟩
    have K2 : Hid (Ok (argLay dv) 6000064 y2) := by rw [e2]; exact (Ok.set K1.out).mono (by decide)
    have C2 := set_gen c F1 g y1 (argLay dv) 6000004 5 w1 A1.out K1.out (by decide) (sat_in dv)
    rw [← e2] at C2
    have D2 := hid C2; have E2 := hid e2; clear C2 e2
    go_wp2_with fail
    refine D2.out.mono ?_
    rintro e w2 ⟨⟨rfl, F2, A2, g2⟩, _⟩
    have G2 := hid (G1.out.trans g2.out); clear D2 g2
    go_wp2
    go_end0
    have hend : pNamed 11 x = y2 := by
      obtain rfl := E2.out
      obtain rfl := E1.out
      simp only [pNamed]
      simp [HN3.out, HN4.out, ← HD.out]
    rw [hend]
    exact ⟨⟨rfl, F2, A2, G2⟩, K2.out.mono (by decide)⟩
  have hc6 : (d == 6) = false := by simpa using hc
  have HN6 := hid hc
  clear hc
  by_cases hc : d = 7
  · subst hc
    obtain ⟨y2, e2⟩ : ∃ z, z = pSet 5 (y1) := ⟨_, rfl⟩
    have K2 : Hid (Ok (argLay dv) 6000064 y2) := by rw [e2]; exact (Ok.set K1.out).mono (by decide)
    have C2 := set_gen c F1 g y1 (argLay dv) 6000004 5 w1 A1.out K1.out (by decide) (sat_in dv)
    rw [← e2] at C2
    have D2 := hid C2; have E2 := hid e2; clear C2 e2
    go_wp2_with fail
    refine D2.out.mono ?_
    rintro e w2 ⟨⟨rfl, F2, A2, g2⟩, _⟩
    have G2 := hid (G1.out.trans g2.out); clear D2 g2
    go_wp2
    go_end0
    have hend : pNamed 11 x = y2 := by
      obtain rfl := E2.out
      obtain rfl := E1.out
      simp only [pNamed]
      simp [HN3.out, HN4.out, HN6.out, ← HD.out]
    rw [hend]
    exact ⟨⟨rfl, F2, A2, G2⟩, K2.out.mono (by decide)⟩
  have hc7 : (d == 7) = false := by simpa using hc
  have HN7 := hid hc
  clear hc
  go_wp2
  go_end0
  have hend : pNamed 11 x = y1 := by
    obtain rfl := E1.out
    simp only [pNamed]
    simp [HN3.out, HN4.out, HN6.out, HN7.out, ← HD.out]
  rw [hend]
  exact ⟨⟨rfl, F1, A1, G1⟩, K1.out.mono (by decide)⟩

set_option maxRecDepth 100000 in
set_option maxHeartbeats 4000000 in
theorem named_12 (c : Nat) (F0 : Nat → Prop) (g : Nat) (x : X) (dv : Value) (w0 : World) (h : At w0 c F0 g x) (hk : Ok (argLay dv) 6000000 x) :
    Calls Try.prog 59 #[.pointer (some ⟨c, 0, none⟩), .int .i64 12, .pointer (some ⟨g, 0, none⟩)] w0 (fun e w' => GQ w0 c F0 g (.tuple #[]) (pNamed 12 x) e w' ∧ Ok (argLay dv) 18000000 (pNamed 12 x)) := by
  have K0 : Hid (Ok (argLay dv) 6000000 x) := hk
  have A0 : Hid (At w0 c F0 g x) := h
  have G0 : Hid (GG w0 F0 g w0 F0) := GG.refl _ _ _
  clear h hk
  go_enter Try.func59, Try.ntmps59
  go_wp2
  go_end0
  have hend : pNamed 12 x = x := by
    rfl
  rw [hend]
  exact ⟨⟨rfl, F0, A0, G0⟩, K0.out.mono (by decide)⟩

set_option maxRecDepth 100000 in
set_option maxHeartbeats 4000000 in
theorem named_13 (c : Nat) (F0 : Nat → Prop) (g : Nat) (x : X) (dv : Value) (w0 : World) (h : At w0 c F0 g x) (hk : Ok (argLay dv) 6000000 x) :
    Calls Try.prog 59 #[.pointer (some ⟨c, 0, none⟩), .int .i64 13, .pointer (some ⟨g, 0, none⟩)] w0 (fun e w' => GQ w0 c F0 g (.tuple #[]) (pNamed 13 x) e w' ∧ Ok (argLay dv) 18000000 (pNamed 13 x)) := by
  have K0 : Hid (Ok (argLay dv) 6000000 x) := hk
  have A0 : Hid (At w0 c F0 g x) := h
  have G0 : Hid (GG w0 F0 g w0 F0) := GG.refl _ _ _
  clear h hk
  go_enter Try.func59, Try.ntmps59
  go_wp2
  go_end0
  have hend : pNamed 13 x = x := by
    rfl
  rw [hend]
  exact ⟨⟨rfl, F0, A0, G0⟩, K0.out.mono (by decide)⟩

set_option maxRecDepth 100000 in
set_option maxHeartbeats 4000000 in
theorem named_14 (c : Nat) (F0 : Nat → Prop) (g : Nat) (x : X) (dv : Value) (w0 : World) (h : At w0 c F0 g x) (hk : Ok (argLay dv) 6000000 x) :
    Calls Try.prog 59 #[.pointer (some ⟨c, 0, none⟩), .int .i64 14, .pointer (some ⟨g, 0, none⟩)] w0 (fun e w' => GQ w0 c F0 g (.tuple #[]) (pNamed 14 x) e w' ∧ Ok (argLay dv) 18000000 (pNamed 14 x)) := by
  have K0 : Hid (Ok (argLay dv) 6000000 x) := hk
  have A0 : Hid (At w0 c F0 g x) := h
  have G0 : Hid (GG w0 F0 g w0 F0) := GG.refl _ _ _
  clear h hk
  go_enter Try.func59, Try.ntmps59
  obtain ⟨y1, e1⟩ : ∃ z, z = pText 64 1 (x) := ⟨_, rfl⟩
  have K1 : Hid (Ok (argLay dv) 8000008 y1) := by rw [e1]; exact (K0.out.text (o := 1) (most := 64) ⟨by decide, by decide⟩ rfl).mono (by decide)
  have C1 := A0.out.text K0.out (by decide) (o := 1) (most := 64) rfl
  rw [← e1] at C1
  have D1 := hid C1; have E1 := hid e1; clear C1 e1
  go_wp2_with fail
  refine D1.out.mono ?_
  rintro e w1 ⟨rfl, F1, A1, g1⟩
  have G1 := hid (G0.out.trans g1.out); clear D1 g1
  obtain ⟨y2, e2⟩ : ∃ z, z = pText 255 3 (y1) := ⟨_, rfl⟩
  have K2 : Hid (Ok (argLay dv) 10000016 y2) := by rw [e2]; exact (K1.out.text (o := 3) (most := 255) ⟨by decide, by decide⟩ rfl).mono (by decide)
  have C2 := A1.out.text K1.out (by decide) (o := 3) (most := 255) rfl
  rw [← e2] at C2
  have D2 := hid C2; have E2 := hid e2; clear C2 e2
  go_wp2_with fail
  refine D2.out.mono ?_
  rintro e w2 ⟨rfl, F2, A2, g2⟩
  have G2 := hid (G1.out.trans g2.out); clear D2 g2
  go_wp2
  go_end0
  have hend : pNamed 14 x = y2 := by
    obtain rfl := E2.out
    obtain rfl := E1.out
    rfl
  rw [hend]
  exact ⟨⟨rfl, F2, A2, G2⟩, K2.out.mono (by decide)⟩

end Go.Proofs.Ytanknjpcgceccaa
