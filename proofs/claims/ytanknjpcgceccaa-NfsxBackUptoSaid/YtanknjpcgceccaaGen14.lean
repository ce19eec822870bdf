/- nfsx's coder: attr, post, wcc, handle, found, whether it reads or writes. (Printed by wip/tools/gen_gen14.py.) -/
import Derived.Test.YtanknjpcgceccaaGen13
import Derived.Deep.Cut
namespace Go.Proofs.Ytanknjpcgceccaa
open Go.RowKit

def attrLay : List Ty := [.int, .int, .int, .u32, .u32, .u64, .u64, .u64, .u32, .u32, .u32, .u32, .u32, .u32]
def postLay : List Ty := .bool :: attrLay
def wccLay : List Ty := [.bool, .u64, .u32, .u32, .u32, .u32]
def isFile (v : Int) : Bool := v == 1 || (v == 2 || v == 5)
def pAttr0 (o : Nat) (x : X) : X := let y := pNumber 0 4294967295 o x; pMust (isFile (iv (y.2 o))) y
def pAttr (o : Nat) (x : X) : X :=
  pTime (o + 12) (pTime (o + 10) (pTime (o + 8) (num1 8 .u64 (o + 7) (pFixed64 1 (pFixed [0, 0] (nums 8 .u64 [o + 5, o + 6] (nums 4 .u32 [o + 3, o + 4] (pNumber 0 4294967295 (o + 2) (pNumber 0 4294967295 (o + 1) (pAttr0 o x))))))))))
def pPost (o : Nat) (x : X) : X := pIf o (pAttr (o + 1)) (pTruth o x)
def pBefore (o : Nat) (x : X) : X := pIf o (fun x => pTime (o + 4) (pTime (o + 2) (num1 8 .u64 (o + 1) x))) (pTruth o x)
def pWcc (o p : Nat) (x : X) : X := pPost p (pBefore o x)
def pHandle (a b : Nat) (x : X) : X := pIf a (pText 64 b) (pTruth a x)
def pFound (x : X) : X := let y := pText 64 74 x; (y.1, upd y.2 73 (.bool true))

set_option maxRecDepth 100000 in
set_option maxHeartbeats 2000000 in
theorem attr_gen (c : Nat) (F0 : Nat → Prop) (g : Nat) (y0 : X) (lay : List Ty) (n : Nat) (o : Nat) (w0 : World) (h : At w0 c F0 g y0) (hk : Ok lay n y0) (hn : n + 100 ≤ 20000000) (hl : ∀ j t, attrLay[j]? = some t → lay[o + j]? = some t) :
    Calls Try.prog 90 #[.pointer (some ⟨c, 0, none⟩), .pointer (some ⟨g, o, none⟩)] w0 (fun e w' => GQ w0 c F0 g (.tuple #[]) (pAttr o y0) e w' ∧ Ok lay (n + 84) (pAttr o y0)) := by
  have HL := hid hl; clear hl
  have K0 : Hid (Ok lay n y0) := hk
  have A0 : Hid (At w0 c F0 g y0) := h
  have G0 : Hid (GG w0 F0 g w0 F0) := GG.refl _ _ _
  have HN := hid hn; clear hn h hk
  go_enter Try.func90, Try.ntmps90
  obtain ⟨y1, e1⟩ : ∃ z, z = pNumber 0 4294967295 (o) y0 := ⟨_, rfl⟩
  have K1 : Hid (Ok lay (n + 4) y1) := by rw [e1]; exact (K0.out.number (HL.out 0 _ rfl)).mono (by omega)
  have C := A0.out.number K0.out (by have := HN.out; omega) (o := o) (lo := 0) (hi := 4294967295) (HL.out 0 _ rfl)
  rw [← e1] at C
  have D := hid C; have E1 := hid e1; clear C e1
  go_wp2_with fail
  refine D.out.mono ?_
  rintro e w1 ⟨rfl, F1, A1, g1⟩
  have G1 := hid (G0.out.trans g1.out); clear D g1
  obtain ⟨v, hv⟩ : ∃ v, v = iv (y1.2 o) := ⟨_, rfl⟩
  have hcell : w1.cell? ⟨g, o, none⟩ = some (.int .i64 v) := by rw [hv]; exact (A1.out.bl.cell o).trans (K1.out.ty o _ (HL.out 0 _ rfl)).iv
  obtain ⟨y2, e2⟩ : ∃ z, z = pMust (isFile v) y1 := ⟨_, rfl⟩
  have K2 : Hid (Ok lay (n + 4) y2) := by rw [e2]; exact K1.out.must _
  have HV := hid hv; have E2 := hid e2
  clear hv e2
  go_upto_region 1 with fail
  go_cut [] from 4 (fun wx => ∃ F', Hid (At wx c F' g y2) ∧ Hid (GG w0 F0 g wx F'))
  case first =>
    by_cases h1 : v = 1
    · subst h1
      have D := hid (A1.out.must true)
      have HY : Hid (y2 = pMust true y1) := E2.out
      go_wp2_with fail
      refine D.out.mono ?_
      rintro e w2 ⟨rfl, F2, A2, g2⟩
      have G2 := hid (G1.out.trans g2.out); clear D g2
      go_wp2_with fail
      go_meet
      case rel => exact ⟨F2, by rw [HY.out]; exact A2, G2⟩
    · have n1 : (v == 1) = false := by simpa using h1
      by_cases h2 : v = 2
      · subst h2
        have D := hid (A1.out.must true)
        have HY : Hid (y2 = pMust true y1) := E2.out
        clear h1
        go_wp2_with fail
        refine D.out.mono ?_
        rintro e w2 ⟨rfl, F2, A2, g2⟩
        have G2 := hid (G1.out.trans g2.out); clear D g2
        go_wp2_with fail
        go_meet
        case rel => exact ⟨F2, by rw [HY.out]; exact A2, G2⟩
      · have n2 : (v == 2) = false := by simpa using h2
        by_cases h5 : v = 5
        · subst h5
          have D := hid (A1.out.must true)
          have HY : Hid (y2 = pMust true y1) := E2.out
          clear h1 h2
          go_wp2_with fail
          refine D.out.mono ?_
          rintro e w2 ⟨rfl, F2, A2, g2⟩
          have G2 := hid (G1.out.trans g2.out); clear D g2
          go_wp2_with fail
          go_meet
          case rel => exact ⟨F2, by rw [HY.out]; exact A2, G2⟩
        · have n5 : (v == 5) = false := by simpa using h5
          have D := hid (A1.out.must false)
          have HY : Hid (y2 = pMust false y1) := by show y2 = _; rw [E2.out, isFile, n1, n2, n5]; rfl
          clear h1 h2 h5
          go_wp2_with fail
          refine D.out.mono ?_
          rintro e w2 ⟨rfl, F2, A2, g2⟩
          have G2 := hid (G1.out.trans g2.out); clear D g2
          go_wp2_with fail
          go_meet
          case rel => exact ⟨F2, by rw [HY.out]; exact A2, G2⟩
  case rest =>
    clear hcell
    obtain ⟨F2, A2, G2⟩ := hcut
    obtain ⟨w2, rfl⟩ : ∃ z, z = wc := ⟨_, rfl⟩
    obtain ⟨y3, e3⟩ : ∃ z, z = pNumber 0 4294967295 (o + 1) y2 := ⟨_, rfl⟩
    have K3 : Hid (Ok lay (n + 8) y3) := by rw [e3]; exact (K2.out.number (HL.out 1 _ rfl)).mono (by omega)
    have C := A2.out.number K2.out (by have := HN.out; omega) (o := o + 1) (lo := 0) (hi := 4294967295) (HL.out 1 _ rfl)
    rw [← e3] at C
    have D := hid C; have E3 := hid e3; clear C e3
    go_wp2_with fail
    refine D.out.mono ?_
    rintro e w3 ⟨rfl, F3, A3, g3⟩
    have G3 := hid (G2.out.trans g3.out); clear D g3
    obtain ⟨y4, e4⟩ : ∃ z, z = pNumber 0 4294967295 (o + 2) y3 := ⟨_, rfl⟩
    have K4 : Hid (Ok lay (n + 12) y4) := by rw [e4]; exact (K3.out.number (HL.out 2 _ rfl)).mono (by omega)
    have C := A3.out.number K3.out (by have := HN.out; omega) (o := o + 2) (lo := 0) (hi := 4294967295) (HL.out 2 _ rfl)
    rw [← e4] at C
    have D := hid C; have E4 := hid e4; clear C e4
    go_wp2_with fail
    refine D.out.mono ?_
    rintro e w4 ⟨rfl, F4, A4, g4⟩
    have G4 := hid (G3.out.trans g4.out); clear D g4
    obtain ⟨y5, e5⟩ : ∃ z, z = nums 4 .u32 [o + 3, o + 4] y4 := ⟨_, rfl⟩
    have K5 : Hid (Ok lay (n + 20) y5) := by rw [e5]; exact ((K4.out.num1 (HL.out 3 _ rfl)).num1 (HL.out 4 _ rfl)).mono (by omega)
    have C := fun w' (hm : Mods (fun _ => False) w4 w') => (A4.out.keep hm).u32s K4.out (by have := HN.out; omega) (o := o + 3) (o2 := o + 4) 123 (HL.out 3 _ rfl) (HL.out 4 _ rfl)
    rw [← e5] at C
    have D := hid C; have E5 := hid e5; clear C e5
    go_wp2_with fail
    go_region_with (refine (D.out _ (Mods.drew _ _)).mono ?_; rintro e w5 ⟨rfl, F5, A5, g5⟩; have G5 := hid (G4.out.trans ((GG.new g (Mods.drew _ _)).trans g5.out)); clear D g5)
    obtain ⟨y6, e6⟩ : ∃ z, z = nums 8 .u64 [o + 5, o + 6] y5 := ⟨_, rfl⟩
    have K6 : Hid (Ok lay (n + 36) y6) := by rw [e6]; exact ((K5.out.num8 (HL.out 5 _ rfl)).num8 (HL.out 6 _ rfl)).mono (by omega)
    have C := fun w' (hm : Mods (fun _ => False) w5 w') => (A5.out.keep hm).u64s K5.out (by have := HN.out; omega) (o := o + 5) (o2 := o + 6) 125 (HL.out 5 _ rfl) (HL.out 6 _ rfl)
    rw [← e6] at C
    have D := hid C; have E6 := hid e6; clear C e6
    go_wp2_with fail
    go_region_with (refine (D.out _ (Mods.drew _ _)).mono ?_; rintro e w6 ⟨rfl, F6, A6, g6⟩; have G6 := hid (G5.out.trans ((GG.new g (Mods.drew _ _)).trans g6.out)); clear D g6)
    obtain ⟨y7, e7⟩ : ∃ z, z = pFixed [0, 0] y6 := ⟨_, rfl⟩
    have K7 : Hid (Ok lay (n + 44) y7) := by rw [e7]; exact (K6.out.fixed [0, 0]).mono (by simp only [List.length_cons, List.length_nil]; omega)
    have C := A6.out.fixed K6.out [0, 0] 23 (by decide) (by simp only [List.length_cons, List.length_nil]; have := HN.out; omega) (by decide) (by decide)
    rw [← e7] at C
    have D := hid C; have E7 := hid e7; clear C e7
    go_wp2_with fail
    refine D.out.mono ?_
    rintro e w7 ⟨rfl, F7, A7, g7⟩
    have G7 := hid (G6.out.trans g7.out); clear D g7
    obtain ⟨y8, e8⟩ : ∃ z, z = pFixed64 1 y7 := ⟨_, rfl⟩
    have K8 : Hid (Ok lay (n + 52) y8) := by rw [e8]; exact (K7.out.fixed64 1).mono (by omega)
    have C := fixed64_gen c F7 g y7 1 w7 A7.out (by have := K7.out.size; have := HN.out; omega) (by decide)
    rw [← e8] at C
    have D := hid C; have E8 := hid e8; clear C e8
    go_wp2_with fail
    refine D.out.mono ?_
    rintro e w8 ⟨rfl, F8, A8, g8⟩
    have G8 := hid (G7.out.trans g8.out); clear D g8
    obtain ⟨y9, e9⟩ : ∃ z, z = num1 8 .u64 (o + 7) y8 := ⟨_, rfl⟩
    have K9 : Hid (Ok lay (n + 60) y9) := by rw [e9]; exact (K8.out.num8 (HL.out 7 _ rfl)).mono (by omega)
    have C := A8.out.u64 K8.out (by have := HN.out; omega) (o := o + 7) 125 (HL.out 7 _ rfl)
    rw [← e9] at C
    have D := hid C; have E9 := hid e9; clear C e9
    go_wp2_with fail
    refine D.out.mono ?_
    rintro e w9 ⟨rfl, F9, A9, g9⟩
    have G9 := hid (G8.out.trans g9.out); clear D g9
    obtain ⟨y10, e10⟩ : ∃ z, z = pTime (o + 8) y9 := ⟨_, rfl⟩
    have K10 : Hid (Ok lay (n + 68) y10) := by rw [e10]; exact (K9.out.time (HL.out 8 _ rfl) (HL.out 9 _ rfl)).mono (by omega)
    have C := time_gen c F9 g y9 lay (n + 60) (o + 8) w9 A9.out K9.out (by have := HN.out; omega) (HL.out 8 _ rfl) (HL.out 9 _ rfl)
    rw [← e10] at C
    have D := hid C; have E10 := hid e10; clear C e10
    go_wp2_with fail
    refine D.out.mono ?_
    rintro e w10 ⟨rfl, F10, A10, g10⟩
    have G10 := hid (G9.out.trans g10.out); clear D g10
    obtain ⟨y11, e11⟩ : ∃ z, z = pTime (o + 10) y10 := ⟨_, rfl⟩
    have K11 : Hid (Ok lay (n + 76) y11) := by rw [e11]; exact (K10.out.time (HL.out 10 _ rfl) (HL.out 11 _ rfl)).mono (by omega)
    have C := time_gen c F10 g y10 lay (n + 68) (o + 10) w10 A10.out K10.out (by have := HN.out; omega) (HL.out 10 _ rfl) (HL.out 11 _ rfl)
    rw [← e11] at C
    have D := hid C; have E11 := hid e11; clear C e11
    go_wp2_with fail
    refine D.out.mono ?_
    rintro e w11 ⟨rfl, F11, A11, g11⟩
    have G11 := hid (G10.out.trans g11.out); clear D g11
    obtain ⟨y12, e12⟩ : ∃ z, z = pTime (o + 12) y11 := ⟨_, rfl⟩
    have K12 : Hid (Ok lay (n + 84) y12) := by rw [e12]; exact (K11.out.time (HL.out 12 _ rfl) (HL.out 13 _ rfl)).mono (by omega)
    have C := time_gen c F11 g y11 lay (n + 76) (o + 12) w11 A11.out K11.out (by have := HN.out; omega) (HL.out 12 _ rfl) (HL.out 13 _ rfl)
    rw [← e12] at C
    have D := hid C; have E12 := hid e12; clear C e12
    go_wp2_with fail
    refine D.out.mono ?_
    rintro e w12 ⟨rfl, F12, A12, g12⟩
    have G12 := hid (G11.out.trans g12.out); clear D g12
    go_wp2
    go_end0
    have hend : pAttr o y0 = y12 := by
      rw [E12.out, E11.out, E10.out, E9.out, E8.out, E7.out, E6.out, E5.out, E4.out, E3.out, E2.out]
      rw [HV.out, E1.out]
      rfl
    rw [hend]
    exact ⟨⟨rfl, F12, A12, G12⟩, K12.out.mono (by omega)⟩

theorem Ok.attr {lay : List Ty} {n : Nat} {x : X} (h : Ok lay n x) {o : Nat} (hl : ∀ j t, attrLay[j]? = some t → lay[o + j]? = some t) : Ok lay (n + 84) (pAttr o x) := by
  have h1 := (h.number (lo := 0) (hi := 4294967295) (hl 0 _ rfl)).must (isFile (iv ((pNumber 0 4294967295 o x).2 o)))
  have h2 := (h1.number (lo := 0) (hi := 4294967295) (hl 1 _ rfl)).number (lo := 0) (hi := 4294967295) (hl 2 _ rfl)
  have h3 := (((h2.num1 (hl 3 _ rfl)).num1 (hl 4 _ rfl)).num8 (hl 5 _ rfl)).num8 (hl 6 _ rfl)
  have h4 := ((h3.fixed [0, 0]).fixed64 1).num8 (hl 7 _ rfl)
  exact (((h4.time (hl 8 _ rfl) (hl 9 _ rfl)).time (hl 10 _ rfl) (hl 11 _ rfl)).time (hl 12 _ rfl) (hl 13 _ rfl)).mono (by simp only [List.length_cons, List.length_nil]; omega)
theorem post_attr {lay : List Ty} {o : Nat} (hl : ∀ j t, postLay[j]? = some t → lay[o + j]? = some t) : ∀ j t, attrLay[j]? = some t → lay[o + 1 + j]? = some t := fun j t h => by
  rw [Nat.add_assoc]; exact hl (1 + j) t (by rw [Nat.add_comm]; exact h)
theorem Ok.post {lay : List Ty} {n : Nat} {x : X} (h : Ok lay n x) {o : Nat} (hl : ∀ j t, postLay[j]? = some t → lay[o + j]? = some t) : Ok lay (n + 88) (pPost o x) := by
  have h1 := h.truth (hl 0 _ rfl)
  exact (h1.pif (o := o) (h1.attr (post_attr hl))).mono (by omega)
theorem Ok.before {lay : List Ty} {n : Nat} {x : X} (h : Ok lay n x) {o : Nat} (hl : ∀ j t, wccLay[j]? = some t → lay[o + j]? = some t) : Ok lay (n + 28) (pBefore o x) := by
  have h1 := h.truth (hl 0 _ rfl)
  exact (h1.pif (o := o) (m := 24) ((((h1.num8 (hl 1 _ rfl)).time (hl 2 _ rfl) (hl 3 _ rfl)).time (hl 4 _ rfl) (hl 5 _ rfl)).mono (by omega))).mono (by omega)
theorem Ok.handle {lay : List Ty} {n : Nat} {x : X} (h : Ok lay n x) {a b : Nat} (ha : lay[a]? = some .bool) (hb : lay[b]? = some .str) : Ok lay (n + 2000012) (pHandle a b x) := by
  have h1 := h.truth ha
  exact (h1.pif (o := a) (h1.text (most := 64) (by decide) hb)).mono (by omega)

set_option maxRecDepth 100000 in
set_option maxHeartbeats 2000000 in
theorem post_gen (c : Nat) (F0 : Nat → Prop) (g : Nat) (y0 : X) (lay : List Ty) (n : Nat) (o : Nat) (w0 : World) (h : At w0 c F0 g y0) (hk : Ok lay n y0) (hn : n + 150 ≤ 20000000) (hl : ∀ j t, postLay[j]? = some t → lay[o + j]? = some t) :
    Calls Try.prog 86 #[.pointer (some ⟨c, 0, none⟩), .pointer (some ⟨g, o, none⟩)] w0 (GQ w0 c F0 g (.tuple #[]) (pPost o y0)) := by
  have HL := hid hl; clear hl
  have K0 : Hid (Ok lay n y0) := hk
  have A0 : Hid (At w0 c F0 g y0) := h
  have G0 : Hid (GG w0 F0 g w0 F0) := GG.refl _ _ _
  have HN := hid hn; clear hn h hk
  go_enter Try.func86, Try.ntmps86
  obtain ⟨y1, e1⟩ : ∃ z, z = pTruth o y0 := ⟨_, rfl⟩
  have K1 : Hid (Ok lay (n + 4) y1) := by rw [e1]; exact (K0.out.truth (HL.out 0 _ rfl)).mono (by omega)
  have C := A0.out.truth K0.out (by have := HN.out; omega) (o := o) (HL.out 0 _ rfl)
  rw [← e1] at C
  obtain ⟨b1, hb⟩ : ∃ b, b = bv (y1.2 o) := ⟨_, rfl⟩
  rw [← hb] at C
  have D := hid C; have E1 := hid e1; have HB := hid hb; clear C e1 hb
  go_wp2_with fail
  refine D.out.mono ?_
  rintro e w1 ⟨rfl, F1, A1, g1⟩
  have G1 := hid (G0.out.trans g1.out); clear D g1
  cases b1
  · have hend : pPost o y0 = y1 := by rw [pPost, ← E1.out, pIf, ← HB.out]; rfl
    go_wp2
    go_end0
    rw [hend]
    exact ⟨rfl, F1, A1, G1⟩
  · have hend : pPost o y0 = pAttr (o + 1) y1 := by rw [pPost, ← E1.out, pIf, ← HB.out]; rfl
    have HE := hid hend
    have D := hid (attr_gen c F1 g y1 lay (n + 4) (o + 1) w1 A1.out K1.out (by have := HN.out; omega) (post_attr HL.out))
    clear hend
    go_wp2_with fail
    refine D.out.mono ?_
    rintro e w2 ⟨⟨rfl, F2, A2, g2⟩, _⟩
    have G2 := hid (G1.out.trans g2.out); clear D g2
    go_wp2
    go_end0
    exact ⟨rfl, F2, by rw [HE.out]; exact A2, G2⟩

set_option maxRecDepth 100000 in
set_option maxHeartbeats 2000000 in
theorem wcc_gen (c : Nat) (F0 : Nat → Prop) (g : Nat) (y0 : X) (lay : List Ty) (n : Nat) (o p : Nat) (w0 : World) (h : At w0 c F0 g y0) (hk : Ok lay n y0) (hn : n + 200 ≤ 20000000) (hl : ∀ j t, wccLay[j]? = some t → lay[o + j]? = some t) (hp : ∀ j t, postLay[j]? = some t → lay[p + j]? = some t) :
    Calls Try.prog 87 #[.pointer (some ⟨c, 0, none⟩), .pointer (some ⟨g, o, none⟩), .pointer (some ⟨g, p, none⟩)] w0 (GQ w0 c F0 g (.tuple #[]) (pWcc o p y0)) := by
  have HP := hid hp; clear hp
  have HL := hid hl; clear hl
  have K0 : Hid (Ok lay n y0) := hk
  have A0 : Hid (At w0 c F0 g y0) := h
  have G0 : Hid (GG w0 F0 g w0 F0) := GG.refl _ _ _
  have HN := hid hn; clear hn h hk
  go_enter Try.func87, Try.ntmps87
  obtain ⟨y1, e1⟩ : ∃ z, z = pTruth o y0 := ⟨_, rfl⟩
  have K1 : Hid (Ok lay (n + 4) y1) := by rw [e1]; exact (K0.out.truth (HL.out 0 _ rfl)).mono (by omega)
  have C := A0.out.truth K0.out (by have := HN.out; omega) (o := o) (HL.out 0 _ rfl)
  rw [← e1] at C
  obtain ⟨b1, hb⟩ : ∃ b, b = bv (y1.2 o) := ⟨_, rfl⟩
  rw [← hb] at C
  obtain ⟨yb, eb⟩ : ∃ z, z = pBefore o y0 := ⟨_, rfl⟩
  have KB : Hid (Ok lay (n + 28) yb) := by rw [eb]; exact K0.out.before HL.out
  have D := hid C; have E1 := hid e1; have HB := hid hb; have EB := hid eb; clear C e1 hb eb
  go_wp2_with fail
  refine D.out.mono ?_
  rintro e w1 ⟨rfl, F1, A1, g1⟩
  have G1 := hid (G0.out.trans g1.out); clear D g1
  go_upto_if 10 with fail
  go_cut [] from 6 (fun wx => ∃ F', Hid (At wx c F' g yb) ∧ Hid (GG w0 F0 g wx F'))
  case first =>
    cases b1
    · have HY : Hid (yb = y1) := by show yb = y1; rw [EB.out, pBefore, ← E1.out, pIf, ← HB.out]; rfl
      go_wp2_with fail
      go_meet
      case rel => obtain rfl := HY.out; exact ⟨F1, A1, G1⟩
    · have HY : Hid (yb = pTime (o + 4) (pTime (o + 2) (num1 8 .u64 (o + 1) y1))) := by show yb = _; rw [EB.out, pBefore, ← E1.out, pIf, ← HB.out]; rfl
      obtain ⟨y2, e2⟩ : ∃ z, z = num1 8 .u64 (o + 1) y1 := ⟨_, rfl⟩
      have K2 : Hid (Ok lay (n + 12) y2) := by rw [e2]; exact (K1.out.num8 (HL.out 1 _ rfl)).mono (by omega)
      have C := A1.out.u64 K1.out (by have := HN.out; omega) (o := o + 1) 125 (HL.out 1 _ rfl)
      rw [← e2] at C
      have D := hid C; have E2 := hid e2; clear C e2
      go_wp2_with fail
      refine D.out.mono ?_
      rintro e w2 ⟨rfl, F2, A2, g2⟩
      have G2 := hid (G1.out.trans g2.out); clear D g2
      obtain ⟨y3, e3⟩ : ∃ z, z = pTime (o + 2) y2 := ⟨_, rfl⟩
      have K3 : Hid (Ok lay (n + 20) y3) := by rw [e3]; exact (K2.out.time (HL.out 2 _ rfl) (HL.out 3 _ rfl)).mono (by omega)
      have C := time_gen c F2 g y2 lay (n + 12) (o + 2) w2 A2.out K2.out (by have := HN.out; omega) (HL.out 2 _ rfl) (HL.out 3 _ rfl)
      rw [← e3] at C
      have D := hid C; have E3 := hid e3; clear C e3
      go_wp2_with fail
      refine D.out.mono ?_
      rintro e w3 ⟨rfl, F3, A3, g3⟩
      have G3 := hid (G2.out.trans g3.out); clear D g3
      obtain ⟨y4, e4⟩ : ∃ z, z = pTime (o + 4) y3 := ⟨_, rfl⟩
      have K4 : Hid (Ok lay (n + 28) y4) := by rw [e4]; exact (K3.out.time (HL.out 4 _ rfl) (HL.out 5 _ rfl)).mono (by omega)
      have C := time_gen c F3 g y3 lay (n + 20) (o + 4) w3 A3.out K3.out (by have := HN.out; omega) (HL.out 4 _ rfl) (HL.out 5 _ rfl)
      rw [← e4] at C
      have D := hid C; have E4 := hid e4; clear C e4
      go_wp2_with fail
      refine D.out.mono ?_
      rintro e w4 ⟨rfl, F4, A4, g4⟩
      have G4 := hid (G3.out.trans g4.out); clear D g4
      go_wp2_with fail
      go_meet
      case rel => exact ⟨F4, by rw [HY.out, ← E2.out, ← E3.out, ← E4.out]; exact A4, G4⟩
  case rest =>
    obtain ⟨F2, A2, G2⟩ := hcut
    obtain ⟨w2, rfl⟩ : ∃ z, z = wc := ⟨_, rfl⟩
    have D := hid (post_gen c F2 g yb lay (n + 28) p w2 A2.out KB.out (by have := HN.out; omega) HP.out)
    go_wp2_with fail
    refine D.out.mono ?_
    rintro e w3 ⟨rfl, F3, A3, g3⟩
    have G3 := hid (G2.out.trans g3.out); clear D g3
    go_wp2
    go_end0
    have hend : pWcc o p y0 = pPost p yb := by rw [EB.out]; rfl
    rw [hend]
    exact ⟨rfl, F3, A3, G3⟩

set_option maxRecDepth 100000 in
set_option maxHeartbeats 2000000 in
theorem handle_gen (c : Nat) (F0 : Nat → Prop) (g : Nat) (y0 : X) (lay : List Ty) (n : Nat) (a b : Nat) (w0 : World) (h : At w0 c F0 g y0) (hk : Ok lay n y0) (hn : n + 2000020 ≤ 20000000) (ha : lay[a]? = some .bool) (hb : lay[b]? = some .str) :
    Calls Try.prog 88 #[.pointer (some ⟨c, 0, none⟩), .pointer (some ⟨g, a, none⟩), .pointer (some ⟨g, b, none⟩)] w0 (GQ w0 c F0 g (.tuple #[]) (pHandle a b y0)) := by
  have HA := hid ha; have HBB := hid hb; clear ha hb
  have K0 : Hid (Ok lay n y0) := hk
  have A0 : Hid (At w0 c F0 g y0) := h
  have G0 : Hid (GG w0 F0 g w0 F0) := GG.refl _ _ _
  have HN := hid hn; clear hn h hk
  go_enter Try.func88, Try.ntmps88
  obtain ⟨y1, e1⟩ : ∃ z, z = pTruth a y0 := ⟨_, rfl⟩
  have K1 : Hid (Ok lay (n + 4) y1) := by rw [e1]; exact (K0.out.truth HA.out).mono (by omega)
  have C := A0.out.truth K0.out (by have := HN.out; omega) (o := a) HA.out
  rw [← e1] at C
  obtain ⟨b1, hb⟩ : ∃ b, b = bv (y1.2 a) := ⟨_, rfl⟩
  rw [← hb] at C
  have D := hid C; have E1 := hid e1; have HB := hid hb; clear C e1 hb
  go_wp2_with fail
  refine D.out.mono ?_
  rintro e w1 ⟨rfl, F1, A1, g1⟩
  have G1 := hid (G0.out.trans g1.out); clear D g1
  cases b1
  · have hend : pHandle a b y0 = y1 := by rw [pHandle, ← E1.out, pIf, ← HB.out]; rfl
    go_wp2
    go_end0
    rw [hend]
    exact ⟨rfl, F1, A1, G1⟩
  · have hend : pHandle a b y0 = pText 64 b y1 := by rw [pHandle, ← E1.out, pIf, ← HB.out]; rfl
    have HE := hid hend
    have D := hid (A1.out.text K1.out (by have := HN.out; omega) (o := b) (most := 64) HBB.out)
    clear hend
    go_wp2_with fail
    refine D.out.mono ?_
    rintro e w2 ⟨rfl, F2, A2, g2⟩
    have G2 := hid (G1.out.trans g2.out); clear D g2
    go_wp2
    go_end0
    exact ⟨rfl, F2, by rw [HE.out]; exact A2, G2⟩
  

set_option maxRecDepth 100000 in
set_option maxHeartbeats 2000000 in
theorem found_gen (c : Nat) (F0 : Nat → Prop) (g : Nat) (y0 : X) (lay : List Ty) (n : Nat) (w0 : World) (h : At w0 c F0 g y0) (hk : Ok lay n y0) (hn : n + 2000020 ≤ 20000000) (ha : lay[73]? = some .bool) (hb : lay[74]? = some .str) :
    Calls Try.prog 89 #[.pointer (some ⟨c, 0, none⟩), .pointer (some ⟨g, 0, none⟩)] w0 (GQ w0 c F0 g (.tuple #[]) (pFound y0)) := by
  have D := hid (h.text hk (by omega) (o := 74) (most := 64) hb)
  obtain ⟨y1, e1⟩ : ∃ z, z = pText 64 74 y0 := ⟨_, rfl⟩
  have K1 : Hid (Ok lay (n + 2000008) y1) := by rw [e1]; exact hk.text (most := 64) (by decide) hb
  rw [← e1] at D
  have E1 := hid e1; have HA := hid ha
  clear h hk hn ha hb e1
  go_enter Try.func89, Try.ntmps89
  go_wp2_with fail
  refine D.out.mono ?_
  rintro e w1 ⟨rfl, F1, A1, g1⟩
  have hc := (A1.out.bl.cell 73).trans (K1.out.ty 73 _ HA.out).bv
  have hf := A1.out.bl.free 73
  have hset := A1.out.bl.set (K1.out.ty 73 _ HA.out).bv (.bool true)
  have hms : Mods (fun k => k = g) w1 (w1.setCell ⟨g, 73, none⟩ (.bool true)) := Mods.setCell (F := fun k => k = g) (a := ⟨g, 73, none⟩) rfl _
  have A2 : Hid (At (w1.setCell ⟨g, 73, none⟩ (.bool true)) c F1 g (y1.1, upd y1.2 73 (.bool true))) := ⟨A1.out.co.keep hms (fun k hk e => A1.out.ap (e ▸ hk)), hset, A1.out.ap⟩
  have G2 := hid (g1.out.trans (GG.mine (F := F1) hms))
  clear D A1 g1 hset hms
  go_wp2
  go_end0
  have hend : pFound y0 = (y1.1, upd y1.2 73 (.bool true)) := by rw [E1.out]; rfl
  rw [hend]
  exact ⟨rfl, F1, A2, G2⟩

end Go.Proofs.Ytanknjpcgceccaa
