/- nfsx's coder: set, whether it reads or writes. (Printed by wip/tools/gen_gen7.py.) -/
import Derived.Test.YtanknjpcgceccaaGen6
import Derived.Deep.Cut
namespace Go.Proofs.Ytanknjpcgceccaa
open Go.RowKit

def pIf (o : Nat) (f : X → X) (x : X) : X := if bv (x.2 o) then f x else x
theorem Ok.pif {lay : List Ty} {n m : Nat} {x : X} (h : Ok lay n x) {o : Nat} {f : X → X} (hf : Ok lay (n + m) (f x)) : Ok lay (n + m) (pIf o f x) := by
  unfold pIf
  split
  · exact hf
  · exact h.mono (by omega)
def satLay : List Ty := [.bool, .bool, .bool, .bool, .int, .u32, .u32, .u64, .int, .int, .u32, .u32, .u32, .u32]
def pSet (o : Nat) (x : X) : X :=
  pHow (o + 9) (o + 12) (pHow (o + 8) (o + 10) (pIf (o + 3) (num1 8 .u64 (o + 7)) (pTruth (o + 3) (pIf (o + 2) (num1 4 .u32 (o + 6)) (pTruth (o + 2) (pIf (o + 1) (num1 4 .u32 (o + 5)) (pTruth (o + 1) (pIf o (pNumber 0 4294967295 (o + 4)) (pTruth o x)))))))))

set_option maxRecDepth 100000 in
set_option maxHeartbeats 2000000 in
theorem set_gen (c : Nat) (F : Nat → Prop) (g : Nat) (x : X) (lay : List Ty) (n : Nat) (o : Nat) (w : World) (h : At w c F g x) (hk : Ok lay n x) (hn : n + 100 ≤ 20000000) (hl : ∀ j t, satLay[j]? = some t → lay[o + j]? = some t) :
    Calls Try.prog 52 #[.pointer (some ⟨c, 0, none⟩), .pointer (some ⟨g, o, none⟩)] w (fun e w' => GQ w c F g (.tuple #[]) (pSet o x) e w' ∧ Ok lay (n + 60) (pSet o x)) := by
  have HL := hid hl
  clear hl
  have K0 : Hid (Ok lay n x) := hk
  obtain ⟨y1, e1⟩ : ∃ z, z = pTruth o x := ⟨_, rfl⟩
  have K1 : Hid (Ok lay (n + 4) y1) := by rw [e1]; exact (K0.out.truth (HL.out 0 _ rfl)).mono (by omega)
  obtain ⟨y2, e2⟩ : ∃ z, z = pIf o (pNumber 0 4294967295 (o + 4)) y1 := ⟨_, rfl⟩
  have K2 : Hid (Ok lay (n + 8) y2) := by rw [e2]; exact (K1.out.pif (K1.out.number (HL.out 4 _ rfl))).mono (by omega)
  obtain ⟨y3, e3⟩ : ∃ z, z = pTruth (o + 1) y2 := ⟨_, rfl⟩
  have K3 : Hid (Ok lay (n + 12) y3) := by rw [e3]; exact (K2.out.truth (HL.out 1 _ rfl)).mono (by omega)
  obtain ⟨y4, e4⟩ : ∃ z, z = pIf (o + 1) (num1 4 .u32 (o + 5)) y3 := ⟨_, rfl⟩
  have K4 : Hid (Ok lay (n + 16) y4) := by rw [e4]; exact (K3.out.pif (K3.out.num1 (HL.out 5 _ rfl))).mono (by omega)
  obtain ⟨y5, e5⟩ : ∃ z, z = pTruth (o + 2) y4 := ⟨_, rfl⟩
  have K5 : Hid (Ok lay (n + 20) y5) := by rw [e5]; exact (K4.out.truth (HL.out 2 _ rfl)).mono (by omega)
  obtain ⟨y6, e6⟩ : ∃ z, z = pIf (o + 2) (num1 4 .u32 (o + 6)) y5 := ⟨_, rfl⟩
  have K6 : Hid (Ok lay (n + 24) y6) := by rw [e6]; exact (K5.out.pif (K5.out.num1 (HL.out 6 _ rfl))).mono (by omega)
  obtain ⟨y7, e7⟩ : ∃ z, z = pTruth (o + 3) y6 := ⟨_, rfl⟩
  have K7 : Hid (Ok lay (n + 28) y7) := by rw [e7]; exact (K6.out.truth (HL.out 3 _ rfl)).mono (by omega)
  obtain ⟨y8, e8⟩ : ∃ z, z = pIf (o + 3) (num1 8 .u64 (o + 7)) y7 := ⟨_, rfl⟩
  have K8 : Hid (Ok lay (n + 36) y8) := by rw [e8]; exact (K7.out.pif (K7.out.num8 (HL.out 7 _ rfl))).mono (by omega)
  obtain ⟨y9, e9⟩ : ∃ z, z = pHow (o + 8) (o + 10) y8 := ⟨_, rfl⟩
  have K9 : Hid (Ok lay (n + 48) y9) := by rw [e9]; exact (K8.out.how (HL.out 8 _ rfl) (HL.out 10 _ rfl) (HL.out 11 _ rfl)).mono (by omega)
  obtain ⟨y10, e10⟩ : ∃ z, z = pHow (o + 9) (o + 12) y9 := ⟨_, rfl⟩
  have K10 : Hid (Ok lay (n + 60) y10) := by rw [e10]; exact (K9.out.how (HL.out 9 _ rfl) (HL.out 12 _ rfl) (HL.out 13 _ rfl)).mono (by omega)
  have hend : Hid (pSet o x = y10 ∧ Ok lay (n + 60) (pSet o x)) := by
    have he : pSet o x = y10 := by simp only [e1, e2, e3, e4, e5, e6, e7, e8, e9, e10, pSet]
    exact ⟨he, he ▸ K10.out.mono (by omega)⟩
  have A0 : Hid (At w c F g x) := h
  have G0 : Hid (GG w F g w F) := GG.refl _ _ _
  clear h hk
  have E1 := hid e1; clear e1
  have E2 := hid e2; clear e2
  have E3 := hid e3; clear e3
  have E4 := hid e4; clear e4
  have E5 := hid e5; clear e5
  have E6 := hid e6; clear e6
  have E7 := hid e7; clear e7
  have E8 := hid e8; clear e8
  have E9 := hid e9; clear e9
  have E10 := hid e10; clear e10
  have HN := hid hn; clear hn
  go_enter Try.func52, Try.ntmps52
  have C1 := (A0.out.truth K0.out (by have := HN.out; omega) (o := o) (HL.out 0 _ rfl))
  rw [← E1.out] at C1
  obtain ⟨b1, hb1⟩ : ∃ b, b = bv (y1.2 o) := ⟨_, rfl⟩
  rw [← hb1] at C1
  have D1 := hid C1; have B1 := hid hb1
  clear C1 hb1
  go_wp2_with fail
  refine D1.out.mono ?_
  rintro e w1 ⟨rfl, F1, A1, g1⟩
  have G1 := hid (G0.out.trans g1.out)
  clear D1 g1
  go_upto_if 8 with fail
  go_cut [] from 5 (fun wx => ∃ F', Hid (At wx c F' g y2) ∧ Hid (GG w F g wx F'))
  case first =>
    cases b1
    · have hy : y2 = y1 := by rw [E2.out, pIf, ← B1.out]; rfl
      have HY := hid hy; clear hy
      go_wp2_with fail
      go_meet
      case rel => obtain rfl := HY.out; exact ⟨F1, A1, G1⟩
    · have C2 := (A1.out.number (lo := 0) (hi := 4294967295) K1.out (by have := HN.out; omega) (o := (o + 4)) (HL.out 4 _ rfl))
      have hy : y2 = pNumber 0 4294967295 (o + 4) y1 := by rw [E2.out, pIf, ← B1.out]; exact if_pos rfl
      rw [← hy] at C2
      have D2 := hid C2
      clear C2 hy
      go_wp2_with fail
      refine D2.out.mono ?_
      rintro e w2 ⟨rfl, F2, A2, g2⟩
      have G2 := hid (G1.out.trans g2.out)
      clear D2 g2
      go_wp2_with fail
      go_meet
      case rel => exact ⟨F2, A2, G2⟩
  case rest =>
    obtain ⟨F2, A2, G2⟩ := hcut
    have C3 := (A2.out.truth K2.out (by have := HN.out; omega) (o := (o + 1)) (HL.out 1 _ rfl))
    rw [← E3.out] at C3
    obtain ⟨b3, hb3⟩ : ∃ b, b = bv (y3.2 (o + 1)) := ⟨_, rfl⟩
    rw [← hb3] at C3
    have D3 := hid C3; have B3 := hid hb3
    clear C3 hb3
    go_wp2_with fail
    refine D3.out.mono ?_
    rintro e w3 ⟨rfl, F3, A3, g3⟩
    have G3 := hid (G2.out.trans g3.out)
    clear D3 g3
    go_upto_if 18 with fail
    go_cut [] from 5 (fun wx => ∃ F', Hid (At wx c F' g y4) ∧ Hid (GG w F g wx F'))
    case first =>
      cases b3
      · have hy : y4 = y3 := by rw [E4.out, pIf, ← B3.out]; rfl
        have HY := hid hy; clear hy
        go_wp2_with fail
        go_meet
        case rel => obtain rfl := HY.out; exact ⟨F3, A3, G3⟩
      · have C4 := (A3.out.u32 K3.out (by have := HN.out; omega) (o := (o + 5)) 123 (HL.out 5 _ rfl))
        have hy : y4 = num1 4 .u32 (o + 5) y3 := by rw [E4.out, pIf, ← B3.out]; exact if_pos rfl
        rw [← hy] at C4
        have D4 := hid C4
        clear C4 hy
        go_wp2_with fail
        refine D4.out.mono ?_
        rintro e w4 ⟨rfl, F4, A4, g4⟩
        have G4 := hid (G3.out.trans g4.out)
        clear D4 g4
        go_wp2_with fail
        go_meet
        case rel => exact ⟨F4, A4, G4⟩
    case rest =>
      obtain ⟨F4, A4, G4⟩ := hcut
      have C5 := (A4.out.truth K4.out (by have := HN.out; omega) (o := (o + 2)) (HL.out 2 _ rfl))
      rw [← E5.out] at C5
      obtain ⟨b5, hb5⟩ : ∃ b, b = bv (y5.2 (o + 2)) := ⟨_, rfl⟩
      rw [← hb5] at C5
      have D5 := hid C5; have B5 := hid hb5
      clear C5 hb5
      go_wp2_with fail
      refine D5.out.mono ?_
      rintro e w5 ⟨rfl, F5, A5, g5⟩
      have G5 := hid (G4.out.trans g5.out)
      clear D5 g5
      go_upto_if 29 with fail
      go_cut [] from 5 (fun wx => ∃ F', Hid (At wx c F' g y6) ∧ Hid (GG w F g wx F'))
      case first =>
        cases b5
        · have hy : y6 = y5 := by rw [E6.out, pIf, ← B5.out]; rfl
          have HY := hid hy; clear hy
          go_wp2_with fail
          go_meet
          case rel => obtain rfl := HY.out; exact ⟨F5, A5, G5⟩
        · have C6 := (A5.out.u32 K5.out (by have := HN.out; omega) (o := (o + 6)) 123 (HL.out 6 _ rfl))
          have hy : y6 = num1 4 .u32 (o + 6) y5 := by rw [E6.out, pIf, ← B5.out]; exact if_pos rfl
          rw [← hy] at C6
          have D6 := hid C6
          clear C6 hy
          go_wp2_with fail
          refine D6.out.mono ?_
          rintro e w6 ⟨rfl, F6, A6, g6⟩
          have G6 := hid (G5.out.trans g6.out)
          clear D6 g6
          go_wp2_with fail
          go_meet
          case rel => exact ⟨F6, A6, G6⟩
      case rest =>
        obtain ⟨F6, A6, G6⟩ := hcut
        have C7 := (A6.out.truth K6.out (by have := HN.out; omega) (o := (o + 3)) (HL.out 3 _ rfl))
        rw [← E7.out] at C7
        obtain ⟨b7, hb7⟩ : ∃ b, b = bv (y7.2 (o + 3)) := ⟨_, rfl⟩
        rw [← hb7] at C7
        have D7 := hid C7; have B7 := hid hb7
        clear C7 hb7
        go_wp2_with fail
        refine D7.out.mono ?_
        rintro e w7 ⟨rfl, F7, A7, g7⟩
        have G7 := hid (G6.out.trans g7.out)
        clear D7 g7
        go_upto_if 40 with fail
        go_cut [] from 5 (fun wx => ∃ F', Hid (At wx c F' g y8) ∧ Hid (GG w F g wx F'))
        case first =>
          cases b7
          · have hy : y8 = y7 := by rw [E8.out, pIf, ← B7.out]; rfl
            have HY := hid hy; clear hy
            go_wp2_with fail
            go_meet
            case rel => obtain rfl := HY.out; exact ⟨F7, A7, G7⟩
          · have C8 := (A7.out.u64 K7.out (by have := HN.out; omega) (o := (o + 7)) 125 (HL.out 7 _ rfl))
            have hy : y8 = num1 8 .u64 (o + 7) y7 := by rw [E8.out, pIf, ← B7.out]; exact if_pos rfl
            rw [← hy] at C8
            have D8 := hid C8
            clear C8 hy
            go_wp2_with fail
            refine D8.out.mono ?_
            rintro e w8 ⟨rfl, F8, A8, g8⟩
            have G8 := hid (G7.out.trans g8.out)
            clear D8 g8
            go_wp2_with fail
            go_meet
            case rel => exact ⟨F8, A8, G8⟩
        case rest =>
          obtain ⟨F8, A8, G8⟩ := hcut
          have C9 := fun w' (hm : Mods (fun _ => False) _ w') => how_gen c F8 g y8 lay (n + 36) (o + 8) (o + 10) w' (A8.out.keep hm) K8.out (by have := HN.out; omega) (HL.out 8 _ rfl) (HL.out 10 _ rfl) (HL.out 11 _ rfl)
          rw [← E9.out] at C9
          have D9 := hid C9
          clear C9
          go_wp2_with fail
          go_region_with (refine (D9.out _ (Mods.drew _ _)).mono ?_; rintro e w9 ⟨rfl, F9, A9, g9⟩; have G9 := hid (G8.out.trans ((GG.new g (Mods.drew _ _)).trans g9.out)); clear D9 g9)
          have C10 := fun w' (hm : Mods (fun _ => False) _ w') => how_gen c F9 g y9 lay (n + 48) (o + 9) (o + 12) w' (A9.out.keep hm) K9.out (by have := HN.out; omega) (HL.out 9 _ rfl) (HL.out 12 _ rfl) (HL.out 13 _ rfl)
          rw [← E10.out] at C10
          have D10 := hid C10
          clear C10
          go_wp2_with fail
          go_region_with (refine (D10.out _ (Mods.drew _ _)).mono ?_; rintro e w10 ⟨rfl, F10, A10, g10⟩; have G10 := hid (G9.out.trans ((GG.new g (Mods.drew _ _)).trans g10.out)); clear D10 g10)
          go_wp2
          go_end0
          refine ⟨?_, hend.out.2⟩
          rw [hend.out.1]
          exact ⟨rfl, F10, A10, G10⟩

end Go.Proofs.Ytanknjpcgceccaa
