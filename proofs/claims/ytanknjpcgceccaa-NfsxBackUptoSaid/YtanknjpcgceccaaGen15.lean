/- nfsx's coder: front, procedure by procedure. (Printed by wip/tools/gen_gen15.py.) -/
import Derived.Test.YtanknjpcgceccaaGen14
namespace Go.Proofs.Ytanknjpcgceccaa
open Go.RowKit

def resLay (dv ev : Value) : List Ty := [.int] ++ (postLay ++ (postLay ++ (wccLay ++ (wccLay ++ (postLay ++ (postLay ++ [.bool, .str, .u32, .str, .u32, .bool, .is dv, .int, .u64, .u64, .is ev, .u64, .u64, .u64, .u64]))))))
theorem lay_at (a : List Ty) {m b : List Ty} {j : Nat} {t : Ty} (h : m[j]? = some t) : (a ++ (m ++ b))[a.length + j]? = some t := by
  have hlt : j < m.length := (List.getElem?_eq_some_iff.1 h).1
  rw [List.getElem?_append_right (by omega), Nat.add_sub_cancel_left, List.getElem?_append_left hlt]
  exact h
section
variable (dv ev : Value)
theorem sub_obj : ∀ j t, postLay[j]? = some t → (resLay dv ev)[1 + j]? = some t := fun _ _ h => lay_at [.int] h
theorem sub_dir : ∀ j t, postLay[j]? = some t → (resLay dv ev)[16 + j]? = some t := fun _ _ h => lay_at ([.int] ++ postLay) h
theorem sub_before : ∀ j t, wccLay[j]? = some t → (resLay dv ev)[31 + j]? = some t := fun _ _ h => lay_at ([.int] ++ (postLay ++ postLay)) h
theorem sub_toBefore : ∀ j t, wccLay[j]? = some t → (resLay dv ev)[37 + j]? = some t := fun _ _ h => lay_at ([.int] ++ (postLay ++ (postLay ++ wccLay))) h
theorem sub_after : ∀ j t, postLay[j]? = some t → (resLay dv ev)[43 + j]? = some t := fun _ _ h => lay_at ([.int] ++ (postLay ++ (postLay ++ (wccLay ++ wccLay)))) h
theorem sub_toAfter : ∀ j t, postLay[j]? = some t → (resLay dv ev)[58 + j]? = some t := fun _ _ h => lay_at ([.int] ++ (postLay ++ (postLay ++ (wccLay ++ (wccLay ++ postLay))))) h
end
theorem Ok.found {dv ev : Value} {n : Nat} {x : X} (h : Ok (resLay dv ev) n x) : Ok (resLay dv ev) (n + 2000008) (pFound x) := by
  have h1 := h.text (o := 74) (most := 64) (by decide) rfl
  exact ⟨h1.ty.upd' (o := 73) rfl ⟨true, rfl⟩, h1.size⟩

/-- What is told whatever the Status is, ahead of the rest. -/
def pFront : Nat → Bool → X → X
  | 2, _, x => pWcc 31 43 x
  | 3, ok, x => pPost 16 (if ok then pPost 1 (pFound x) else x)
  | 4, _, x => pPost 1 x
  | 5, _, x => pPost 1 x
  | 6, _, x => pPost 1 x
  | 7, _, x => pWcc 31 43 x
  | 8, ok, x => pWcc 31 43 (if ok then pPost 1 (pHandle 73 74 x) else x)
  | 9, ok, x => pWcc 31 43 (if ok then pPost 1 (pHandle 73 74 x) else x)
  | 10, ok, x => pWcc 31 43 (if ok then pPost 1 (pHandle 73 74 x) else x)
  | 11, ok, x => pWcc 31 43 (if ok then pPost 1 (pHandle 73 74 x) else x)
  | 12, _, x => pWcc 31 43 x
  | 13, _, x => pWcc 31 43 x
  | 14, _, x => pWcc 37 58 (pWcc 31 43 x)
  | 15, _, x => pWcc 31 43 (pPost 1 x)
  | 16, _, x => pPost 1 x
  | 17, _, x => pPost 1 x
  | 18, _, x => pPost 1 x
  | 19, _, x => pPost 1 x
  | 20, _, x => pPost 1 x
  | 21, _, x => pWcc 31 43 x
  | _, _, x => x

set_option maxRecDepth 100000 in
set_option maxHeartbeats 4000000 in
theorem front_1 (c : Nat) (F0 : Nat → Prop) (g : Nat) (y0 : X) (dv ev : Value) (w0 : World) (h : At w0 c F0 g y0) (hk : Ok (resLay dv ev) 1000 y0) :
    Calls Try.prog 72 #[.pointer (some ⟨c, 0, none⟩), .int .i64 1, .pointer (some ⟨g, 0, none⟩)] w0 (fun e w' => GQ w0 c F0 g (.tuple #[]) (pFront 1 (iv (y0.2 0) == 0) y0) e w' ∧ Ok (resLay dv ev) 4000000 (pFront 1 (iv (y0.2 0) == 0) y0)) := by
  have hst := (hk.ty 0 _ rfl).iv
  obtain ⟨st, hs⟩ : ∃ s, s = iv (y0.2 0) := ⟨_, rfl⟩
  rw [← hs] at hst ⊢
  have hcell : w0.cell? ⟨g, 0, none⟩ = some (.int .i64 st) := (h.bl.cell 0).trans hst
  have K0 : Hid (Ok (resLay dv ev) 1000 y0) := hk
  have A0 : Hid (At w0 c F0 g y0) := h
  have G0 : Hid (GG w0 F0 g w0 F0) := GG.refl _ _ _
  clear h hk hst hs
  go_enter Try.func72, Try.ntmps72
  obtain ⟨ok, hok⟩ : ∃ b, b = (st == 0) := ⟨_, rfl⟩
  rw [← hok]
  clear hok
  go_wp2
  go_end0
  have hend : pFront 1 ok y0 = y0 := by
    rfl
  rw [hend]
  exact ⟨⟨rfl, F0, A0, G0⟩, K0.out.mono (by decide)⟩

set_option maxRecDepth 100000 in
set_option maxHeartbeats 4000000 in
theorem front_2 (c : Nat) (F0 : Nat → Prop) (g : Nat) (y0 : X) (dv ev : Value) (w0 : World) (h : At w0 c F0 g y0) (hk : Ok (resLay dv ev) 1000 y0) :
    Calls Try.prog 72 #[.pointer (some ⟨c, 0, none⟩), .int .i64 2, .pointer (some ⟨g, 0, none⟩)] w0 (fun e w' => GQ w0 c F0 g (.tuple #[]) (pFront 2 (iv (y0.2 0) == 0) y0) e w' ∧ Ok (resLay dv ev) 4000000 (pFront 2 (iv (y0.2 0) == 0) y0)) := by
  have hst := (hk.ty 0 _ rfl).iv
  obtain ⟨st, hs⟩ : ∃ s, s = iv (y0.2 0) := ⟨_, rfl⟩
  rw [← hs] at hst ⊢
  have hcell : w0.cell? ⟨g, 0, none⟩ = some (.int .i64 st) := (h.bl.cell 0).trans hst
  have K0 : Hid (Ok (resLay dv ev) 1000 y0) := hk
  have A0 : Hid (At w0 c F0 g y0) := h
  have G0 : Hid (GG w0 F0 g w0 F0) := GG.refl _ _ _
  clear h hk hst hs
  go_enter Try.func72, Try.ntmps72
  obtain ⟨ok, hok⟩ : ∃ b, b = (st == 0) := ⟨_, rfl⟩
  rw [← hok]
  clear hok
  obtain ⟨y1, e1⟩ : ∃ z, z = pWcc 31 43 y0 := ⟨_, rfl⟩
  have K1 : Hid (Ok (resLay dv ev) (1116) y1) := by rw [e1]; exact (Ok.post (Ok.before K0.out (sub_before dv ev)) (sub_after dv ev)).mono (by decide)
  have C := fun w' (hm : Mods (fun _ => False) w0 w') => wcc_gen c F0 g y0 (resLay dv ev) (1000) 31 43 w' (A0.out.keep hm) K0.out (by decide) (sub_before dv ev) (sub_after dv ev)
  rw [← e1] at C
  have D := hid C; have E1 := hid e1; clear C e1
  go_wp2_with fail
  go_region_with (refine (D.out _ (Mods.drew _ _)).mono ?_; rintro e w1 ⟨rfl, F1, A1, g1⟩; have G1 := hid (G0.out.trans ((GG.new g (Mods.drew _ _)).trans g1.out)); clear D g1)
  go_wp2
  go_end0
  have hend : pFront 2 ok y0 = y1 := by
    rw [E1.out]; rfl
  rw [hend]
  exact ⟨⟨rfl, F1, A1, G1⟩, K1.out.mono (by decide)⟩

set_option maxRecDepth 100000 in
set_option maxHeartbeats 4000000 in
theorem front_3 (c : Nat) (F0 : Nat → Prop) (g : Nat) (y0 : X) (dv ev : Value) (w0 : World) (h : At w0 c F0 g y0) (hk : Ok (resLay dv ev) 1000 y0) :
    Calls Try.prog 72 #[.pointer (some ⟨c, 0, none⟩), .int .i64 3, .pointer (some ⟨g, 0, none⟩)] w0 (fun e w' => GQ w0 c F0 g (.tuple #[]) (pFront 3 (iv (y0.2 0) == 0) y0) e w' ∧ Ok (resLay dv ev) 4000000 (pFront 3 (iv (y0.2 0) == 0) y0)) := by
  have hst := (hk.ty 0 _ rfl).iv
  obtain ⟨st, hs⟩ : ∃ s, s = iv (y0.2 0) := ⟨_, rfl⟩
  rw [← hs] at hst ⊢
  have hcell : w0.cell? ⟨g, 0, none⟩ = some (.int .i64 st) := (h.bl.cell 0).trans hst
  have K0 : Hid (Ok (resLay dv ev) 1000 y0) := hk
  have A0 : Hid (At w0 c F0 g y0) := h
  have G0 : Hid (GG w0 F0 g w0 F0) := GG.refl _ _ _
  clear h hk hst hs
  by_cases hz : st = 0
  · subst hz
    rw [show ((0 : Int) == 0) = true from rfl]
    go_enter Try.func72, Try.ntmps72
    obtain ⟨y1, e1⟩ : ∃ z, z = pFound y0 := ⟨_, rfl⟩
    have K1 : Hid (Ok (resLay dv ev) (2001008) y1) := by rw [e1]; exact (Ok.found K0.out).mono (by decide)
    have C := found_gen c F0 g y0 (resLay dv ev) (1000) w0 A0.out K0.out (by decide) rfl rfl
    rw [← e1] at C
    have D := hid C; have E1 := hid e1; clear C e1
    go_wp2_with fail
    refine D.out.mono ?_
    rintro e w1 ⟨rfl, F1, A1, g1⟩
    have G1 := hid (G0.out.trans g1.out); clear D g1
    obtain ⟨y2, e2⟩ : ∃ z, z = pPost 1 y1 := ⟨_, rfl⟩
    have K2 : Hid (Ok (resLay dv ev) (2001096) y2) := by rw [e2]; exact (Ok.post K1.out (sub_obj dv ev)).mono (by decide)
    have C := post_gen c F1 g y1 (resLay dv ev) (2001008) 1 w1 A1.out K1.out (by decide) (sub_obj dv ev)
    rw [← e2] at C
    have D := hid C; have E2 := hid e2; clear C e2
    go_wp2_with fail
    refine D.out.mono ?_
    rintro e w2 ⟨rfl, F2, A2, g2⟩
    have G2 := hid (G1.out.trans g2.out); clear D g2
    obtain ⟨y3, e3⟩ : ∃ z, z = pPost 16 y2 := ⟨_, rfl⟩
    have K3 : Hid (Ok (resLay dv ev) (2001184) y3) := by rw [e3]; exact (Ok.post K2.out (sub_dir dv ev)).mono (by decide)
    have C := post_gen c F2 g y2 (resLay dv ev) (2001096) 16 w2 A2.out K2.out (by decide) (sub_dir dv ev)
    rw [← e3] at C
    have D := hid C; have E3 := hid e3; clear C e3
    go_wp2_with fail
    refine D.out.mono ?_
    rintro e w3 ⟨rfl, F3, A3, g3⟩
    have G3 := hid (G2.out.trans g3.out); clear D g3
    go_wp2
    go_end0
    have hend : pFront 3 true y0 = y3 := by
      rw [E3.out, E2.out, E1.out]; rfl
    rw [hend]
    exact ⟨⟨rfl, F3, A3, G3⟩, K3.out.mono (by decide)⟩
  · have hz2 : (st == 0) = false := by simpa using hz
    rw [hz2]
    clear hz
    go_enter Try.func72, Try.ntmps72
    obtain ⟨y1, e1⟩ : ∃ z, z = pPost 16 y0 := ⟨_, rfl⟩
    have K1 : Hid (Ok (resLay dv ev) (1088) y1) := by rw [e1]; exact (Ok.post K0.out (sub_dir dv ev)).mono (by decide)
    have C := post_gen c F0 g y0 (resLay dv ev) (1000) 16 w0 A0.out K0.out (by decide) (sub_dir dv ev)
    rw [← e1] at C
    have D := hid C; have E1 := hid e1; clear C e1
    go_wp2_with fail
    refine D.out.mono ?_
    rintro e w1 ⟨rfl, F1, A1, g1⟩
    have G1 := hid (G0.out.trans g1.out); clear D g1
    go_wp2
    go_end0
    have hend : pFront 3 false y0 = y1 := by
      rw [E1.out]; rfl
    rw [hend]
    exact ⟨⟨rfl, F1, A1, G1⟩, K1.out.mono (by decide)⟩

set_option maxRecDepth 100000 in
set_option maxHeartbeats 4000000 in
theorem front_4 (c : Nat) (F0 : Nat → Prop) (g : Nat) (y0 : X) (dv ev : Value) (w0 : World) (h : At w0 c F0 g y0) (hk : Ok (resLay dv ev) 1000 y0) :
    Calls Try.prog 72 #[.pointer (some ⟨c, 0, none⟩), .int .i64 4, .pointer (some ⟨g, 0, none⟩)] w0 (fun e w' => GQ w0 c F0 g (.tuple #[]) (pFront 4 (iv (y0.2 0) == 0) y0) e w' ∧ Ok (resLay dv ev) 4000000 (pFront 4 (iv (y0.2 0) == 0) y0)) := by
  have hst := (hk.ty 0 _ rfl).iv
  obtain ⟨st, hs⟩ : ∃ s, s = iv (y0.2 0) := ⟨_, rfl⟩
  rw [← hs] at hst ⊢
  have hcell : w0.cell? ⟨g, 0, none⟩ = some (.int .i64 st) := (h.bl.cell 0).trans hst
  have K0 : Hid (Ok (resLay dv ev) 1000 y0) := hk
  have A0 : Hid (At w0 c F0 g y0) := h
  have G0 : Hid (GG w0 F0 g w0 F0) := GG.refl _ _ _
  clear h hk hst hs
  go_enter Try.func72, Try.ntmps72
  obtain ⟨ok, hok⟩ : ∃ b, b = (st == 0) := ⟨_, rfl⟩
  rw [← hok]
  clear hok
  obtain ⟨y1, e1⟩ : ∃ z, z = pPost 1 y0 := ⟨_, rfl⟩
  have K1 : Hid (Ok (resLay dv ev) (1088) y1) := by rw [e1]; exact (Ok.post K0.out (sub_obj dv ev)).mono (by decide)
  have C := post_gen c F0 g y0 (resLay dv ev) (1000) 1 w0 A0.out K0.out (by decide) (sub_obj dv ev)
  rw [← e1] at C
  have D := hid C; have E1 := hid e1; clear C e1
  go_wp2_with fail
  refine D.out.mono ?_
  rintro e w1 ⟨rfl, F1, A1, g1⟩
  have G1 := hid (G0.out.trans g1.out); clear D g1
  go_wp2
  go_end0
  have hend : pFront 4 ok y0 = y1 := by
    rw [E1.out]; rfl
  rw [hend]
  exact ⟨⟨rfl, F1, A1, G1⟩, K1.out.mono (by decide)⟩

set_option maxRecDepth 100000 in
set_option maxHeartbeats 4000000 in
theorem front_5 (c : Nat) (F0 : Nat → Prop) (g : Nat) (y0 : X) (dv ev : Value) (w0 : World) (h : At w0 c F0 g y0) (hk : Ok (resLay dv ev) 1000 y0) :
    Calls Try.prog 72 #[.pointer (some ⟨c, 0, none⟩), .int .i64 5, .pointer (some ⟨g, 0, none⟩)] w0 (fun e w' => GQ w0 c F0 g (.tuple #[]) (pFront 5 (iv (y0.2 0) == 0) y0) e w' ∧ Ok (resLay dv ev) 4000000 (pFront 5 (iv (y0.2 0) == 0) y0)) := by
  have hst := (hk.ty 0 _ rfl).iv
  obtain ⟨st, hs⟩ : ∃ s, s = iv (y0.2 0) := ⟨_, rfl⟩
  rw [← hs] at hst ⊢
  have hcell : w0.cell? ⟨g, 0, none⟩ = some (.int .i64 st) := (h.bl.cell 0).trans hst
  have K0 : Hid (Ok (resLay dv ev) 1000 y0) := hk
  have A0 : Hid (At w0 c F0 g y0) := h
  have G0 : Hid (GG w0 F0 g w0 F0) := GG.refl _ _ _
  clear h hk hst hs
  go_enter Try.func72, Try.ntmps72
  obtain ⟨ok, hok⟩ : ∃ b, b = (st == 0) := ⟨_, rfl⟩
  rw [← hok]
  clear hok
  obtain ⟨y1, e1⟩ : ∃ z, z = pPost 1 y0 := ⟨_, rfl⟩
  have K1 : Hid (Ok (resLay dv ev) (1088) y1) := by rw [e1]; exact (Ok.post K0.out (sub_obj dv ev)).mono (by decide)
  have C := post_gen c F0 g y0 (resLay dv ev) (1000) 1 w0 A0.out K0.out (by decide) (sub_obj dv ev)
  rw [← e1] at C
  have D := hid C; have E1 := hid e1; clear C e1
  go_wp2_with fail
  refine D.out.mono ?_
  rintro e w1 ⟨rfl, F1, A1, g1⟩
  have G1 := hid (G0.out.trans g1.out); clear D g1
  go_wp2
  go_end0
  have hend : pFront 5 ok y0 = y1 := by
    rw [E1.out]; rfl
  rw [hend]
  exact ⟨⟨rfl, F1, A1, G1⟩, K1.out.mono (by decide)⟩

set_option maxRecDepth 100000 in
set_option maxHeartbeats 4000000 in
theorem front_6 (c : Nat) (F0 : Nat → Prop) (g : Nat) (y0 : X) (dv ev : Value) (w0 : World) (h : At w0 c F0 g y0) (hk : Ok (resLay dv ev) 1000 y0) :
    Calls Try.prog 72 #[.pointer (some ⟨c, 0, none⟩), .int .i64 6, .pointer (some ⟨g, 0, none⟩)] w0 (fun e w' => GQ w0 c F0 g (.tuple #[]) (pFront 6 (iv (y0.2 0) == 0) y0) e w' ∧ Ok (resLay dv ev) 4000000 (pFront 6 (iv (y0.2 0) == 0) y0)) := by
  have hst := (hk.ty 0 _ rfl).iv
  obtain ⟨st, hs⟩ : ∃ s, s = iv (y0.2 0) := ⟨_, rfl⟩
  rw [← hs] at hst ⊢
  have hcell : w0.cell? ⟨g, 0, none⟩ = some (.int .i64 st) := (h.bl.cell 0).trans hst
  have K0 : Hid (Ok (resLay dv ev) 1000 y0) := hk
  have A0 : Hid (At w0 c F0 g y0) := h
  have G0 : Hid (GG w0 F0 g w0 F0) := GG.refl _ _ _
  clear h hk hst hs
  go_enter Try.func72, Try.ntmps72
  obtain ⟨ok, hok⟩ : ∃ b, b = (st == 0) := ⟨_, rfl⟩
  rw [← hok]
  clear hok
  obtain ⟨y1, e1⟩ : ∃ z, z = pPost 1 y0 := ⟨_, rfl⟩
  have K1 : Hid (Ok (resLay dv ev) (1088) y1) := by rw [e1]; exact (Ok.post K0.out (sub_obj dv ev)).mono (by decide)
  have C := post_gen c F0 g y0 (resLay dv ev) (1000) 1 w0 A0.out K0.out (by decide) (sub_obj dv ev)
  rw [← e1] at C
  have D := hid C; have E1 := hid e1; clear C e1
  go_wp2_with fail
  refine D.out.mono ?_
  rintro e w1 ⟨rfl, F1, A1, g1⟩
  have G1 := hid (G0.out.trans g1.out); clear D g1
  go_wp2
  go_end0
  have hend : pFront 6 ok y0 = y1 := by
    rw [E1.out]; rfl
  rw [hend]
  exact ⟨⟨rfl, F1, A1, G1⟩, K1.out.mono (by decide)⟩

set_option maxRecDepth 100000 in
set_option maxHeartbeats 4000000 in
theorem front_7 (c : Nat) (F0 : Nat → Prop) (g : Nat) (y0 : X) (dv ev : Value) (w0 : World) (h : At w0 c F0 g y0) (hk : Ok (resLay dv ev) 1000 y0) :
    Calls Try.prog 72 #[.pointer (some ⟨c, 0, none⟩), .int .i64 7, .pointer (some ⟨g, 0, none⟩)] w0 (fun e w' => GQ w0 c F0 g (.tuple #[]) (pFront 7 (iv (y0.2 0) == 0) y0) e w' ∧ Ok (resLay dv ev) 4000000 (pFront 7 (iv (y0.2 0) == 0) y0)) := by
  have hst := (hk.ty 0 _ rfl).iv
  obtain ⟨st, hs⟩ : ∃ s, s = iv (y0.2 0) := ⟨_, rfl⟩
  rw [← hs] at hst ⊢
  have hcell : w0.cell? ⟨g, 0, none⟩ = some (.int .i64 st) := (h.bl.cell 0).trans hst
  have K0 : Hid (Ok (resLay dv ev) 1000 y0) := hk
  have A0 : Hid (At w0 c F0 g y0) := h
  have G0 : Hid (GG w0 F0 g w0 F0) := GG.refl _ _ _
  clear h hk hst hs
  go_enter Try.func72, Try.ntmps72
  obtain ⟨ok, hok⟩ : ∃ b, b = (st == 0) := ⟨_, rfl⟩
  rw [← hok]
  clear hok
  obtain ⟨y1, e1⟩ : ∃ z, z = pWcc 31 43 y0 := ⟨_, rfl⟩
  have K1 : Hid (Ok (resLay dv ev) (1116) y1) := by rw [e1]; exact (Ok.post (Ok.before K0.out (sub_before dv ev)) (sub_after dv ev)).mono (by decide)
  have C := fun w' (hm : Mods (fun _ => False) w0 w') => wcc_gen c F0 g y0 (resLay dv ev) (1000) 31 43 w' (A0.out.keep hm) K0.out (by decide) (sub_before dv ev) (sub_after dv ev)
  rw [← e1] at C
  have D := hid C; have E1 := hid e1; clear C e1
  go_wp2_with fail
  go_region_with (refine (D.out _ (Mods.drew _ _)).mono ?_; rintro e w1 ⟨rfl, F1, A1, g1⟩; have G1 := hid (G0.out.trans ((GG.new g (Mods.drew _ _)).trans g1.out)); clear D g1)
  go_wp2
  go_end0
  have hend : pFront 7 ok y0 = y1 := by
    rw [E1.out]; rfl
  rw [hend]
  exact ⟨⟨rfl, F1, A1, G1⟩, K1.out.mono (by decide)⟩

set_option maxRecDepth 100000 in
set_option maxHeartbeats 4000000 in
theorem front_8 (c : Nat) (F0 : Nat → Prop) (g : Nat) (y0 : X) (dv ev : Value) (w0 : World) (h : At w0 c F0 g y0) (hk : Ok (resLay dv ev) 1000 y0) :
    Calls Try.prog 72 #[.pointer (some ⟨c, 0, none⟩), .int .i64 8, .pointer (some ⟨g, 0, none⟩)] w0 (fun e w' => GQ w0 c F0 g (.tuple #[]) (pFront 8 (iv (y0.2 0) == 0) y0) e w' ∧ Ok (resLay dv ev) 4000000 (pFront 8 (iv (y0.2 0) == 0) y0)) := by
  have hst := (hk.ty 0 _ rfl).iv
  obtain ⟨st, hs⟩ : ∃ s, s = iv (y0.2 0) := ⟨_, rfl⟩
  rw [← hs] at hst ⊢
  have hcell : w0.cell? ⟨g, 0, none⟩ = some (.int .i64 st) := (h.bl.cell 0).trans hst
  have K0 : Hid (Ok (resLay dv ev) 1000 y0) := hk
  have A0 : Hid (At w0 c F0 g y0) := h
  have G0 : Hid (GG w0 F0 g w0 F0) := GG.refl _ _ _
  clear h hk hst hs
  by_cases hz : st = 0
  · subst hz
    rw [show ((0 : Int) == 0) = true from rfl]
    go_enter Try.func72, Try.ntmps72
    obtain ⟨y1, e1⟩ : ∃ z, z = pHandle 73 74 y0 := ⟨_, rfl⟩
    have K1 : Hid (Ok (resLay dv ev) (2001012) y1) := by rw [e1]; exact (Ok.handle (a := 73) (b := 74) K0.out rfl rfl).mono (by decide)
    have C := fun w' (hm : Mods (fun _ => False) w0 w') => handle_gen c F0 g y0 (resLay dv ev) (1000) 73 74 w' (A0.out.keep hm) K0.out (by decide) rfl rfl
    rw [← e1] at C
    have D := hid C; have E1 := hid e1; clear C e1
    go_wp2_with fail
    go_region_with (refine (D.out _ (Mods.drew _ _)).mono ?_; rintro e w1 ⟨rfl, F1, A1, g1⟩; have G1 := hid (G0.out.trans ((GG.new g (Mods.drew _ _)).trans g1.out)); clear D g1)
    obtain ⟨y2, e2⟩ : ∃ z, z = pPost 1 y1 := ⟨_, rfl⟩
    have K2 : Hid (Ok (resLay dv ev) (2001100) y2) := by rw [e2]; exact (Ok.post K1.out (sub_obj dv ev)).mono (by decide)
    have C := post_gen c F1 g y1 (resLay dv ev) (2001012) 1 w1 A1.out K1.out (by decide) (sub_obj dv ev)
    rw [← e2] at C
    have D := hid C; have E2 := hid e2; clear C e2
    go_wp2_with fail
    refine D.out.mono ?_
    rintro e w2 ⟨rfl, F2, A2, g2⟩
    have G2 := hid (G1.out.trans g2.out); clear D g2
    obtain ⟨y3, e3⟩ : ∃ z, z = pWcc 31 43 y2 := ⟨_, rfl⟩
    have K3 : Hid (Ok (resLay dv ev) (2001216) y3) := by rw [e3]; exact (Ok.post (Ok.before K2.out (sub_before dv ev)) (sub_after dv ev)).mono (by decide)
    have C := fun w' (hm : Mods (fun _ => False) w2 w') => wcc_gen c F2 g y2 (resLay dv ev) (2001100) 31 43 w' (A2.out.keep hm) K2.out (by decide) (sub_before dv ev) (sub_after dv ev)
    rw [← e3] at C
    have D := hid C; have E3 := hid e3; clear C e3
    go_wp2_with fail
    go_region_with (refine (D.out _ (Mods.drew _ _)).mono ?_; rintro e w3 ⟨rfl, F3, A3, g3⟩; have G3 := hid (G2.out.trans ((GG.new g (Mods.drew _ _)).trans g3.out)); clear D g3)
    go_wp2
    go_end0
    have hend : pFront 8 true y0 = y3 := by
      rw [E3.out, E2.out, E1.out]; rfl
    rw [hend]
    exact ⟨⟨rfl, F3, A3, G3⟩, K3.out.mono (by decide)⟩
  · have hz2 : (st == 0) = false := by simpa using hz
    rw [hz2]
    clear hz
    go_enter Try.func72, Try.ntmps72
    obtain ⟨y1, e1⟩ : ∃ z, z = pWcc 31 43 y0 := ⟨_, rfl⟩
    have K1 : Hid (Ok (resLay dv ev) (1116) y1) := by rw [e1]; exact (Ok.post (Ok.before K0.out (sub_before dv ev)) (sub_after dv ev)).mono (by decide)
    have C := fun w' (hm : Mods (fun _ => False) w0 w') => wcc_gen c F0 g y0 (resLay dv ev) (1000) 31 43 w' (A0.out.keep hm) K0.out (by decide) (sub_before dv ev) (sub_after dv ev)
    rw [← e1] at C
    have D := hid C; have E1 := hid e1; clear C e1
    go_wp2_with fail
    go_region_with (refine (D.out _ (Mods.drew _ _)).mono ?_; rintro e w1 ⟨rfl, F1, A1, g1⟩; have G1 := hid (G0.out.trans ((GG.new g (Mods.drew _ _)).trans g1.out)); clear D g1)
    go_wp2
    go_end0
    have hend : pFront 8 false y0 = y1 := by
      rw [E1.out]; rfl
    rw [hend]
    exact ⟨⟨rfl, F1, A1, G1⟩, K1.out.mono (by decide)⟩

set_option maxRecDepth 100000 in
set_option maxHeartbeats 4000000 in
theorem front_9 (c : Nat) (F0 : Nat → Prop) (g : Nat) (y0 : X) (dv ev : Value) (w0 : World) (h : At w0 c F0 g y0) (hk : Ok (resLay dv ev) 1000 y0) :
    Calls Try.prog 72 #[.pointer (some ⟨c, 0, none⟩), .int .i64 9, .pointer (some ⟨g, 0, none⟩)] w0 (fun e w' => GQ w0 c F0 g (.tuple #[]) (pFront 9 (iv (y0.2 0) == 0) y0) e w' ∧ Ok (resLay dv ev) 4000000 (pFront 9 (iv (y0.2 0) == 0) y0)) := by
  have hst := (hk.ty 0 _ rfl).iv
  obtain ⟨st, hs⟩ : ∃ s, s = iv (y0.2 0) := ⟨_, rfl⟩
  rw [← hs] at hst ⊢
  have hcell : w0.cell? ⟨g, 0, none⟩ = some (.int .i64 st) := (h.bl.cell 0).trans hst
  have K0 : Hid (Ok (resLay dv ev) 1000 y0) := hk
  have A0 : Hid (At w0 c F0 g y0) := h
  have G0 : Hid (GG w0 F0 g w0 F0) := GG.refl _ _ _
  clear h hk hst hs
  by_cases hz : st = 0
  · subst hz
    rw [show ((0 : Int) == 0) = true from rfl]
    go_enter Try.func72, Try.ntmps72
    obtain ⟨y1, e1⟩ : ∃ z, z = pHandle 73 74 y0 := ⟨_, rfl⟩
    have K1 : Hid (Ok (resLay dv ev) (2001012) y1) := by rw [e1]; exact (Ok.handle (a := 73) (b := 74) K0.out rfl rfl).mono (by decide)
    have C := fun w' (hm : Mods (fun _ => False) w0 w') => handle_gen c F0 g y0 (resLay dv ev) (1000) 73 74 w' (A0.out.keep hm) K0.out (by decide) rfl rfl
    rw [← e1] at C
    have D := hid C; have E1 := hid e1; clear C e1
    go_wp2_with fail
    go_region_with (refine (D.out _ (Mods.drew _ _)).mono ?_; rintro e w1 ⟨rfl, F1, A1, g1⟩; have G1 := hid (G0.out.trans ((GG.new g (Mods.drew _ _)).trans g1.out)); clear D g1)
    obtain ⟨y2, e2⟩ : ∃ z, z = pPost 1 y1 := ⟨_, rfl⟩
    have K2 : Hid (Ok (resLay dv ev) (2001100) y2) := by rw [e2]; exact (Ok.post K1.out (sub_obj dv ev)).mono (by decide)
    have C := post_gen c F1 g y1 (resLay dv ev) (2001012) 1 w1 A1.out K1.out (by decide) (sub_obj dv ev)
    rw [← e2] at C
    have D := hid C; have E2 := hid e2; clear C e2
    go_wp2_with fail
    refine D.out.mono ?_
    rintro e w2 ⟨rfl, F2, A2, g2⟩
    have G2 := hid (G1.out.trans g2.out); clear D g2
    obtain ⟨y3, e3⟩ : ∃ z, z = pWcc 31 43 y2 := ⟨_, rfl⟩
    have K3 : Hid (Ok (resLay dv ev) (2001216) y3) := by rw [e3]; exact (Ok.post (Ok.before K2.out (sub_before dv ev)) (sub_after dv ev)).mono (by decide)
    have C := fun w' (hm : Mods (fun _ => False) w2 w') => wcc_gen c F2 g y2 (resLay dv ev) (2001100) 31 43 w' (A2.out.keep hm) K2.out (by decide) (sub_before dv ev) (sub_after dv ev)
    rw [← e3] at C
    have D := hid C; have E3 := hid e3; clear C e3
    go_wp2_with fail
    go_region_with (refine (D.out _ (Mods.drew _ _)).mono ?_; rintro e w3 ⟨rfl, F3, A3, g3⟩; have G3 := hid (G2.out.trans ((GG.new g (Mods.drew _ _)).trans g3.out)); clear D g3)
    go_wp2
    go_end0
    have hend : pFront 9 true y0 = y3 := by
      rw [E3.out, E2.out, E1.out]; rfl
    rw [hend]
    exact ⟨⟨rfl, F3, A3, G3⟩, K3.out.mono (by decide)⟩
  · have hz2 : (st == 0) = false := by simpa using hz
    rw [hz2]
    clear hz
    go_enter Try.func72, Try.ntmps72
    obtain ⟨y1, e1⟩ : ∃ z, z = pWcc 31 43 y0 := ⟨_, rfl⟩
    have K1 : Hid (Ok (resLay dv ev) (1116) y1) := by rw [e1]; exact (Ok.post (Ok.before K0.out (sub_before dv ev)) (sub_after dv ev)).mono (by decide)
    have C := fun w' (hm : Mods (fun _ => False) w0 w') => wcc_gen c F0 g y0 (resLay dv ev) (1000) 31 43 w' (A0.out.keep hm) K0.out (by decide) (sub_before dv ev) (sub_after dv ev)
    rw [← e1] at C
    have D := hid C; have E1 := hid e1; clear C e1
    go_wp2_with fail
    go_region_with (refine (D.out _ (Mods.drew _ _)).mono ?_; rintro e w1 ⟨rfl, F1, A1, g1⟩; have G1 := hid (G0.out.trans ((GG.new g (Mods.drew _ _)).trans g1.out)); clear D g1)
    go_wp2
    go_end0
    have hend : pFront 9 false y0 = y1 := by
      rw [E1.out]; rfl
    rw [hend]
    exact ⟨⟨rfl, F1, A1, G1⟩, K1.out.mono (by decide)⟩

set_option maxRecDepth 100000 in
set_option maxHeartbeats 4000000 in
theorem front_10 (c : Nat) (F0 : Nat → Prop) (g : Nat) (y0 : X) (dv ev : Value) (w0 : World) (h : At w0 c F0 g y0) (hk : Ok (resLay dv ev) 1000 y0) :
    Calls Try.prog 72 #[.pointer (some ⟨c, 0, none⟩), .int .i64 10, .pointer (some ⟨g, 0, none⟩)] w0 (fun e w' => GQ w0 c F0 g (.tuple #[]) (pFront 10 (iv (y0.2 0) == 0) y0) e w' ∧ Ok (resLay dv ev) 4000000 (pFront 10 (iv (y0.2 0) == 0) y0)) := by
  have hst := (hk.ty 0 _ rfl).iv
  obtain ⟨st, hs⟩ : ∃ s, s = iv (y0.2 0) := ⟨_, rfl⟩
  rw [← hs] at hst ⊢
  have hcell : w0.cell? ⟨g, 0, none⟩ = some (.int .i64 st) := (h.bl.cell 0).trans hst
  have K0 : Hid (Ok (resLay dv ev) 1000 y0) := hk
  have A0 : Hid (At w0 c F0 g y0) := h
  have G0 : Hid (GG w0 F0 g w0 F0) := GG.refl _ _ _
  clear h hk hst hs
  by_cases hz : st = 0
  · subst hz
    rw [show ((0 : Int) == 0) = true from rfl]
    go_enter Try.func72, Try.ntmps72
    obtain ⟨y1, e1⟩ : ∃ z, z = pHandle 73 74 y0 := ⟨_, rfl⟩
    have K1 : Hid (Ok (resLay dv ev) (2001012) y1) := by rw [e1]; exact (Ok.handle (a := 73) (b := 74) K0.out rfl rfl).mono (by decide)
    have C := fun w' (hm : Mods (fun _ => False) w0 w') => handle_gen c F0 g y0 (resLay dv ev) (1000) 73 74 w' (A0.out.keep hm) K0.out (by decide) rfl rfl
    rw [← e1] at C
    have D := hid C; have E1 := hid e1; clear C e1
    go_wp2_with fail
    go_region_with (refine (D.out _ (Mods.drew _ _)).mono ?_; rintro e w1 ⟨rfl, F1, A1, g1⟩; have G1 := hid (G0.out.trans ((GG.new g (Mods.drew _ _)).trans g1.out)); clear D g1)
    obtain ⟨y2, e2⟩ : ∃ z, z = pPost 1 y1 := ⟨_, rfl⟩
    have K2 : Hid (Ok (resLay dv ev) (2001100) y2) := by rw [e2]; exact (Ok.post K1.out (sub_obj dv ev)).mono (by decide)
    have C := post_gen c F1 g y1 (resLay dv ev) (2001012) 1 w1 A1.out K1.out (by decide) (sub_obj dv ev)
    rw [← e2] at C
    have D := hid C; have E2 := hid e2; clear C e2
    go_wp2_with fail
    refine D.out.mono ?_
    rintro e w2 ⟨rfl, F2, A2, g2⟩
    have G2 := hid (G1.out.trans g2.out); clear D g2
    obtain ⟨y3, e3⟩ : ∃ z, z = pWcc 31 43 y2 := ⟨_, rfl⟩
    have K3 : Hid (Ok (resLay dv ev) (2001216) y3) := by rw [e3]; exact (Ok.post (Ok.before K2.out (sub_before dv ev)) (sub_after dv ev)).mono (by decide)
    have C := fun w' (hm : Mods (fun _ => False) w2 w') => wcc_gen c F2 g y2 (resLay dv ev) (2001100) 31 43 w' (A2.out.keep hm) K2.out (by decide) (sub_before dv ev) (sub_after dv ev)
    rw [← e3] at C
    have D := hid C; have E3 := hid e3; clear C e3
    go_wp2_with fail
    go_region_with (refine (D.out _ (Mods.drew _ _)).mono ?_; rintro e w3 ⟨rfl, F3, A3, g3⟩; have G3 := hid (G2.out.trans ((GG.new g (Mods.drew _ _)).trans g3.out)); clear D g3)
    go_wp2
    go_end0
    have hend : pFront 10 true y0 = y3 := by
      rw [E3.out, E2.out, E1.out]; rfl
    rw [hend]
    exact ⟨⟨rfl, F3, A3, G3⟩, K3.out.mono (by decide)⟩
  · have hz2 : (st == 0) = false := by simpa using hz
    rw [hz2]
    clear hz
    go_enter Try.func72, Try.ntmps72
    obtain ⟨y1, e1⟩ : ∃ z, z = pWcc 31 43 y0 := ⟨_, rfl⟩
    have K1 : Hid (Ok (resLay dv ev) (1116) y1) := by rw [e1]; exact (Ok.post (Ok.before K0.out (sub_before dv ev)) (sub_after dv ev)).mono (by decide)
    have C := fun w' (hm : Mods (fun _ => False) w0 w') => wcc_gen c F0 g y0 (resLay dv ev) (1000) 31 43 w' (A0.out.keep hm) K0.out (by decide) (sub_before dv ev) (sub_after dv ev)
    rw [← e1] at C
    have D := hid C; have E1 := hid e1; clear C e1
    go_wp2_with fail
    go_region_with (refine (D.out _ (Mods.drew _ _)).mono ?_; rintro e w1 ⟨rfl, F1, A1, g1⟩; have G1 := hid (G0.out.trans ((GG.new g (Mods.drew _ _)).trans g1.out)); clear D g1)
    go_wp2
    go_end0
    have hend : pFront 10 false y0 = y1 := by
      rw [E1.out]; rfl
    rw [hend]
    exact ⟨⟨rfl, F1, A1, G1⟩, K1.out.mono (by decide)⟩

set_option maxRecDepth 100000 in
set_option maxHeartbeats 4000000 in
theorem front_11 (c : Nat) (F0 : Nat → Prop) (g : Nat) (y0 : X) (dv ev : Value) (w0 : World) (h : At w0 c F0 g y0) (hk : Ok (resLay dv ev) 1000 y0) :
    Calls Try.prog 72 #[.pointer (some ⟨c, 0, none⟩), .int .i64 11, .pointer (some ⟨g, 0, none⟩)] w0 (fun e w' => GQ w0 c F0 g (.tuple #[]) (pFront 11 (iv (y0.2 0) == 0) y0) e w' ∧ Ok (resLay dv ev) 4000000 (pFront 11 (iv (y0.2 0) == 0) y0)) := by
  have hst := (hk.ty 0 _ rfl).iv
  obtain ⟨st, hs⟩ : ∃ s, s = iv (y0.2 0) := ⟨_, rfl⟩
  rw [← hs] at hst ⊢
  have hcell : w0.cell? ⟨g, 0, none⟩ = some (.int .i64 st) := (h.bl.cell 0).trans hst
  have K0 : Hid (Ok (resLay dv ev) 1000 y0) := hk
  have A0 : Hid (At w0 c F0 g y0) := h
  have G0 : Hid (GG w0 F0 g w0 F0) := GG.refl _ _ _
  clear h hk hst hs
  by_cases hz : st = 0
  · subst hz
    rw [show ((0 : Int) == 0) = true from rfl]
    go_enter Try.func72, Try.ntmps72
    obtain ⟨y1, e1⟩ : ∃ z, z = pHandle 73 74 y0 := ⟨_, rfl⟩
    have K1 : Hid (Ok (resLay dv ev) (2001012) y1) := by rw [e1]; exact (Ok.handle (a := 73) (b := 74) K0.out rfl rfl).mono (by decide)
    have C := fun w' (hm : Mods (fun _ => False) w0 w') => handle_gen c F0 g y0 (resLay dv ev) (1000) 73 74 w' (A0.out.keep hm) K0.out (by decide) rfl rfl
    rw [← e1] at C
    have D := hid C; have E1 := hid e1; clear C e1
    go_wp2_with fail
    go_region_with (refine (D.out _ (Mods.drew _ _)).mono ?_; rintro e w1 ⟨rfl, F1, A1, g1⟩; have G1 := hid (G0.out.trans ((GG.new g (Mods.drew _ _)).trans g1.out)); clear D g1)
    obtain ⟨y2, e2⟩ : ∃ z, z = pPost 1 y1 := ⟨_, rfl⟩
    have K2 : Hid (Ok (resLay dv ev) (2001100) y2) := by rw [e2]; exact (Ok.post K1.out (sub_obj dv ev)).mono (by decide)
    have C := post_gen c F1 g y1 (resLay dv ev) (2001012) 1 w1 A1.out K1.out (by decide) (sub_obj dv ev)
    rw [← e2] at C
    have D := hid C; have E2 := hid e2; clear C e2
    go_wp2_with fail
    refine D.out.mono ?_
    rintro e w2 ⟨rfl, F2, A2, g2⟩
    have G2 := hid (G1.out.trans g2.out); clear D g2
    obtain ⟨y3, e3⟩ : ∃ z, z = pWcc 31 43 y2 := ⟨_, rfl⟩
    have K3 : Hid (Ok (resLay dv ev) (2001216) y3) := by rw [e3]; exact (Ok.post (Ok.before K2.out (sub_before dv ev)) (sub_after dv ev)).mono (by decide)
    have C := fun w' (hm : Mods (fun _ => False) w2 w') => wcc_gen c F2 g y2 (resLay dv ev) (2001100) 31 43 w' (A2.out.keep hm) K2.out (by decide) (sub_before dv ev) (sub_after dv ev)
    rw [← e3] at C
    have D := hid C; have E3 := hid e3; clear C e3
    go_wp2_with fail
    go_region_with (refine (D.out _ (Mods.drew _ _)).mono ?_; rintro e w3 ⟨rfl, F3, A3, g3⟩; have G3 := hid (G2.out.trans ((GG.new g (Mods.drew _ _)).trans g3.out)); clear D g3)
    go_wp2
    go_end0
    have hend : pFront 11 true y0 = y3 := by
      rw [E3.out, E2.out, E1.out]; rfl
    rw [hend]
    exact ⟨⟨rfl, F3, A3, G3⟩, K3.out.mono (by decide)⟩
  · have hz2 : (st == 0) = false := by simpa using hz
    rw [hz2]
    clear hz
    go_enter Try.func72, Try.ntmps72
    obtain ⟨y1, e1⟩ : ∃ z, z = pWcc 31 43 y0 := ⟨_, rfl⟩
    have K1 : Hid (Ok (resLay dv ev) (1116) y1) := by rw [e1]; exact (Ok.post (Ok.before K0.out (sub_before dv ev)) (sub_after dv ev)).mono (by decide)
    have C := fun w' (hm : Mods (fun _ => False) w0 w') => wcc_gen c F0 g y0 (resLay dv ev) (1000) 31 43 w' (A0.out.keep hm) K0.out (by decide) (sub_before dv ev) (sub_after dv ev)
    rw [← e1] at C
    have D := hid C; have E1 := hid e1; clear C e1
    go_wp2_with fail
    go_region_with (refine (D.out _ (Mods.drew _ _)).mono ?_; rintro e w1 ⟨rfl, F1, A1, g1⟩; have G1 := hid (G0.out.trans ((GG.new g (Mods.drew _ _)).trans g1.out)); clear D g1)
    go_wp2
    go_end0
    have hend : pFront 11 false y0 = y1 := by
      rw [E1.out]; rfl
    rw [hend]
    exact ⟨⟨rfl, F1, A1, G1⟩, K1.out.mono (by decide)⟩

set_option maxRecDepth 100000 in
set_option maxHeartbeats 4000000 in
theorem front_12 (c : Nat) (F0 : Nat → Prop) (g : Nat) (y0 : X) (dv ev : Value) (w0 : World) (h : At w0 c F0 g y0) (hk : Ok (resLay dv ev) 1000 y0) :
    Calls Try.prog 72 #[.pointer (some ⟨c, 0, none⟩), .int .i64 12, .pointer (some ⟨g, 0, none⟩)] w0 (fun e w' => GQ w0 c F0 g (.tuple #[]) (pFront 12 (iv (y0.2 0) == 0) y0) e w' ∧ Ok (resLay dv ev) 4000000 (pFront 12 (iv (y0.2 0) == 0) y0)) := by
  have hst := (hk.ty 0 _ rfl).iv
  obtain ⟨st, hs⟩ : ∃ s, s = iv (y0.2 0) := ⟨_, rfl⟩
  rw [← hs] at hst ⊢
  have hcell : w0.cell? ⟨g, 0, none⟩ = some (.int .i64 st) := (h.bl.cell 0).trans hst
  have K0 : Hid (Ok (resLay dv ev) 1000 y0) := hk
  have A0 : Hid (At w0 c F0 g y0) := h
  have G0 : Hid (GG w0 F0 g w0 F0) := GG.refl _ _ _
  clear h hk hst hs
  go_enter Try.func72, Try.ntmps72
  obtain ⟨ok, hok⟩ : ∃ b, b = (st == 0) := ⟨_, rfl⟩
  rw [← hok]
  clear hok
  obtain ⟨y1, e1⟩ : ∃ z, z = pWcc 31 43 y0 := ⟨_, rfl⟩
  have K1 : Hid (Ok (resLay dv ev) (1116) y1) := by rw [e1]; exact (Ok.post (Ok.before K0.out (sub_before dv ev)) (sub_after dv ev)).mono (by decide)
  have C := fun w' (hm : Mods (fun _ => False) w0 w') => wcc_gen c F0 g y0 (resLay dv ev) (1000) 31 43 w' (A0.out.keep hm) K0.out (by decide) (sub_before dv ev) (sub_after dv ev)
  rw [← e1] at C
  have D := hid C; have E1 := hid e1; clear C e1
  go_wp2_with fail
  go_region_with (refine (D.out _ (Mods.drew _ _)).mono ?_; rintro e w1 ⟨rfl, F1, A1, g1⟩; have G1 := hid (G0.out.trans ((GG.new g (Mods.drew _ _)).trans g1.out)); clear D g1)
  go_wp2
  go_end0
  have hend : pFront 12 ok y0 = y1 := by
    rw [E1.out]; rfl
  rw [hend]
  exact ⟨⟨rfl, F1, A1, G1⟩, K1.out.mono (by decide)⟩

set_option maxRecDepth 100000 in
set_option maxHeartbeats 4000000 in
theorem front_13 (c : Nat) (F0 : Nat → Prop) (g : Nat) (y0 : X) (dv ev : Value) (w0 : World) (h : At w0 c F0 g y0) (hk : Ok (resLay dv ev) 1000 y0) :
    Calls Try.prog 72 #[.pointer (some ⟨c, 0, none⟩), .int .i64 13, .pointer (some ⟨g, 0, none⟩)] w0 (fun e w' => GQ w0 c F0 g (.tuple #[]) (pFront 13 (iv (y0.2 0) == 0) y0) e w' ∧ Ok (resLay dv ev) 4000000 (pFront 13 (iv (y0.2 0) == 0) y0)) := by
  have hst := (hk.ty 0 _ rfl).iv
  obtain ⟨st, hs⟩ : ∃ s, s = iv (y0.2 0) := ⟨_, rfl⟩
  rw [← hs] at hst ⊢
  have hcell : w0.cell? ⟨g, 0, none⟩ = some (.int .i64 st) := (h.bl.cell 0).trans hst
  have K0 : Hid (Ok (resLay dv ev) 1000 y0) := hk
  have A0 : Hid (At w0 c F0 g y0) := h
  have G0 : Hid (GG w0 F0 g w0 F0) := GG.refl _ _ _
  clear h hk hst hs
  go_enter Try.func72, Try.ntmps72
  obtain ⟨ok, hok⟩ : ∃ b, b = (st == 0) := ⟨_, rfl⟩
  rw [← hok]
  clear hok
  obtain ⟨y1, e1⟩ : ∃ z, z = pWcc 31 43 y0 := ⟨_, rfl⟩
  have K1 : Hid (Ok (resLay dv ev) (1116) y1) := by rw [e1]; exact (Ok.post (Ok.before K0.out (sub_before dv ev)) (sub_after dv ev)).mono (by decide)
  have C := fun w' (hm : Mods (fun _ => False) w0 w') => wcc_gen c F0 g y0 (resLay dv ev) (1000) 31 43 w' (A0.out.keep hm) K0.out (by decide) (sub_before dv ev) (sub_after dv ev)
  rw [← e1] at C
  have D := hid C; have E1 := hid e1; clear C e1
  go_wp2_with fail
  go_region_with (refine (D.out _ (Mods.drew _ _)).mono ?_; rintro e w1 ⟨rfl, F1, A1, g1⟩; have G1 := hid (G0.out.trans ((GG.new g (Mods.drew _ _)).trans g1.out)); clear D g1)
  go_wp2
  go_end0
  have hend : pFront 13 ok y0 = y1 := by
    rw [E1.out]; rfl
  rw [hend]
  exact ⟨⟨rfl, F1, A1, G1⟩, K1.out.mono (by decide)⟩

set_option maxRecDepth 100000 in
set_option maxHeartbeats 4000000 in
theorem front_14 (c : Nat) (F0 : Nat → Prop) (g : Nat) (y0 : X) (dv ev : Value) (w0 : World) (h : At w0 c F0 g y0) (hk : Ok (resLay dv ev) 1000 y0) :
    Calls Try.prog 72 #[.pointer (some ⟨c, 0, none⟩), .int .i64 14, .pointer (some ⟨g, 0, none⟩)] w0 (fun e w' => GQ w0 c F0 g (.tuple #[]) (pFront 14 (iv (y0.2 0) == 0) y0) e w' ∧ Ok (resLay dv ev) 4000000 (pFront 14 (iv (y0.2 0) == 0) y0)) := by
  have hst := (hk.ty 0 _ rfl).iv
  obtain ⟨st, hs⟩ : ∃ s, s = iv (y0.2 0) := ⟨_, rfl⟩
  rw [← hs] at hst ⊢
  have hcell : w0.cell? ⟨g, 0, none⟩ = some (.int .i64 st) := (h.bl.cell 0).trans hst
  have K0 : Hid (Ok (resLay dv ev) 1000 y0) := hk
  have A0 : Hid (At w0 c F0 g y0) := h
  have G0 : Hid (GG w0 F0 g w0 F0) := GG.refl _ _ _
  clear h hk hst hs
  go_enter Try.func72, Try.ntmps72
  obtain ⟨ok, hok⟩ : ∃ b, b = (st == 0) := ⟨_, rfl⟩
  rw [← hok]
  clear hok
  obtain ⟨y1, e1⟩ : ∃ z, z = pWcc 31 43 y0 := ⟨_, rfl⟩
  have K1 : Hid (Ok (resLay dv ev) (1116) y1) := by rw [e1]; exact (Ok.post (Ok.before K0.out (sub_before dv ev)) (sub_after dv ev)).mono (by decide)
  have C := fun w' (hm : Mods (fun _ => False) w0 w') => wcc_gen c F0 g y0 (resLay dv ev) (1000) 31 43 w' (A0.out.keep hm) K0.out (by decide) (sub_before dv ev) (sub_after dv ev)
  rw [← e1] at C
  have D := hid C; have E1 := hid e1; clear C e1
  go_wp2_with fail
  go_region_with (refine (D.out _ (Mods.drew _ _)).mono ?_; rintro e w1 ⟨rfl, F1, A1, g1⟩; have G1 := hid (G0.out.trans ((GG.new g (Mods.drew _ _)).trans g1.out)); clear D g1)
  obtain ⟨y2, e2⟩ : ∃ z, z = pWcc 37 58 y1 := ⟨_, rfl⟩
  have K2 : Hid (Ok (resLay dv ev) (1232) y2) := by rw [e2]; exact (Ok.post (Ok.before K1.out (sub_toBefore dv ev)) (sub_toAfter dv ev)).mono (by decide)
  have C := fun w' (hm : Mods (fun _ => False) w1 w') => wcc_gen c F1 g y1 (resLay dv ev) (1116) 37 58 w' (A1.out.keep hm) K1.out (by decide) (sub_toBefore dv ev) (sub_toAfter dv ev)
  rw [← e2] at C
  have D := hid C; have E2 := hid e2; clear C e2
  go_wp2_with fail
  go_region_with (refine (D.out _ (Mods.drew _ _)).mono ?_; rintro e w2 ⟨rfl, F2, A2, g2⟩; have G2 := hid (G1.out.trans ((GG.new g (Mods.drew _ _)).trans g2.out)); clear D g2)
  go_wp2
  go_end0
  have hend : pFront 14 ok y0 = y2 := by
    rw [E2.out, E1.out]; rfl
  rw [hend]
  exact ⟨⟨rfl, F2, A2, G2⟩, K2.out.mono (by decide)⟩

set_option maxRecDepth 100000 in
set_option maxHeartbeats 4000000 in
theorem front_15 (c : Nat) (F0 : Nat → Prop) (g : Nat) (y0 : X) (dv ev : Value) (w0 : World) (h : At w0 c F0 g y0) (hk : Ok (resLay dv ev) 1000 y0) :
    Calls Try.prog 72 #[.pointer (some ⟨c, 0, none⟩), .int .i64 15, .pointer (some ⟨g, 0, none⟩)] w0 (fun e w' => GQ w0 c F0 g (.tuple #[]) (pFront 15 (iv (y0.2 0) == 0) y0) e w' ∧ Ok (resLay dv ev) 4000000 (pFront 15 (iv (y0.2 0) == 0) y0)) := by
  have hst := (hk.ty 0 _ rfl).iv
  obtain ⟨st, hs⟩ : ∃ s, s = iv (y0.2 0) := ⟨_, rfl⟩
  rw [← hs] at hst ⊢
  have hcell : w0.cell? ⟨g, 0, none⟩ = some (.int .i64 st) := (h.bl.cell 0).trans hst
  have K0 : Hid (Ok (resLay dv ev) 1000 y0) := hk
  have A0 : Hid (At w0 c F0 g y0) := h
  have G0 : Hid (GG w0 F0 g w0 F0) := GG.refl _ _ _
  clear h hk hst hs
  go_enter Try.func72, Try.ntmps72
  obtain ⟨ok, hok⟩ : ∃ b, b = (st == 0) := ⟨_, rfl⟩
  rw [← hok]
  clear hok
  obtain ⟨y1, e1⟩ : ∃ z, z = pPost 1 y0 := ⟨_, rfl⟩
  have K1 : Hid (Ok (resLay dv ev) (1088) y1) := by rw [e1]; exact (Ok.post K0.out (sub_obj dv ev)).mono (by decide)
  have C := post_gen c F0 g y0 (resLay dv ev) (1000) 1 w0 A0.out K0.out (by decide) (sub_obj dv ev)
  rw [← e1] at C
  have D := hid C; have E1 := hid e1; clear C e1
  go_wp2_with fail
  refine D.out.mono ?_
  rintro e w1 ⟨rfl, F1, A1, g1⟩
  have G1 := hid (G0.out.trans g1.out); clear D g1
  obtain ⟨y2, e2⟩ : ∃ z, z = pWcc 31 43 y1 := ⟨_, rfl⟩
  have K2 : Hid (Ok (resLay dv ev) (1204) y2) := by rw [e2]; exact (Ok.post (Ok.before K1.out (sub_before dv ev)) (sub_after dv ev)).mono (by decide)
  have C := fun w' (hm : Mods (fun _ => False) w1 w') => wcc_gen c F1 g y1 (resLay dv ev) (1088) 31 43 w' (A1.out.keep hm) K1.out (by decide) (sub_before dv ev) (sub_after dv ev)
  rw [← e2] at C
  have D := hid C; have E2 := hid e2; clear C e2
  go_wp2_with fail
  go_region_with (refine (D.out _ (Mods.drew _ _)).mono ?_; rintro e w2 ⟨rfl, F2, A2, g2⟩; have G2 := hid (G1.out.trans ((GG.new g (Mods.drew _ _)).trans g2.out)); clear D g2)
  go_wp2
  go_end0
  have hend : pFront 15 ok y0 = y2 := by
    rw [E2.out, E1.out]; rfl
  rw [hend]
  exact ⟨⟨rfl, F2, A2, G2⟩, K2.out.mono (by decide)⟩

set_option maxRecDepth 100000 in
set_option maxHeartbeats 4000000 in
theorem front_16 (c : Nat) (F0 : Nat → Prop) (g : Nat) (y0 : X) (dv ev : Value) (w0 : World) (h : At w0 c F0 g y0) (hk : Ok (resLay dv ev) 1000 y0) :
    Calls Try.prog 72 #[.pointer (some ⟨c, 0, none⟩), .int .i64 16, .pointer (some ⟨g, 0, none⟩)] w0 (fun e w' => GQ w0 c F0 g (.tuple #[]) (pFront 16 (iv (y0.2 0) == 0) y0) e w' ∧ Ok (resLay dv ev) 4000000 (pFront 16 (iv (y0.2 0) == 0) y0)) := by
  have hst := (hk.ty 0 _ rfl).iv
  obtain ⟨st, hs⟩ : ∃ s, s = iv (y0.2 0) := ⟨_, rfl⟩
  rw [← hs] at hst ⊢
  have hcell : w0.cell? ⟨g, 0, none⟩ = some (.int .i64 st) := (h.bl.cell 0).trans hst
  have K0 : Hid (Ok (resLay dv ev) 1000 y0) := hk
  have A0 : Hid (At w0 c F0 g y0) := h
  have G0 : Hid (GG w0 F0 g w0 F0) := GG.refl _ _ _
  clear h hk hst hs
  go_enter Try.func72, Try.ntmps72
  obtain ⟨ok, hok⟩ : ∃ b, b = (st == 0) := ⟨_, rfl⟩
  rw [← hok]
  clear hok
  obtain ⟨y1, e1⟩ : ∃ z, z = pPost 1 y0 := ⟨_, rfl⟩
  have K1 : Hid (Ok (resLay dv ev) (1088) y1) := by rw [e1]; exact (Ok.post K0.out (sub_obj dv ev)).mono (by decide)
  have C := post_gen c F0 g y0 (resLay dv ev) (1000) 1 w0 A0.out K0.out (by decide) (sub_obj dv ev)
  rw [← e1] at C
  have D := hid C; have E1 := hid e1; clear C e1
  go_wp2_with fail
  refine D.out.mono ?_
  rintro e w1 ⟨rfl, F1, A1, g1⟩
  have G1 := hid (G0.out.trans g1.out); clear D g1
  go_wp2
  go_end0
  have hend : pFront 16 ok y0 = y1 := by
    rw [E1.out]; rfl
  rw [hend]
  exact ⟨⟨rfl, F1, A1, G1⟩, K1.out.mono (by decide)⟩

set_option maxRecDepth 100000 in
set_option maxHeartbeats 4000000 in
theorem front_17 (c : Nat) (F0 : Nat → Prop) (g : Nat) (y0 : X) (dv ev : Value) (w0 : World) (h : At w0 c F0 g y0) (hk : Ok (resLay dv ev) 1000 y0) :
    Calls Try.prog 72 #[.pointer (some ⟨c, 0, none⟩), .int .i64 17, .pointer (some ⟨g, 0, none⟩)] w0 (fun e w' => GQ w0 c F0 g (.tuple #[]) (pFront 17 (iv (y0.2 0) == 0) y0) e w' ∧ Ok (resLay dv ev) 4000000 (pFront 17 (iv (y0.2 0) == 0) y0)) := by
  have hst := (hk.ty 0 _ rfl).iv
  obtain ⟨st, hs⟩ : ∃ s, s = iv (y0.2 0) := ⟨_, rfl⟩
  rw [← hs] at hst ⊢
  have hcell : w0.cell? ⟨g, 0, none⟩ = some (.int .i64 st) := (h.bl.cell 0).trans hst
  have K0 : Hid (Ok (resLay dv ev) 1000 y0) := hk
  have A0 : Hid (At w0 c F0 g y0) := h
  have G0 : Hid (GG w0 F0 g w0 F0) := GG.refl _ _ _
  clear h hk hst hs
  go_enter Try.func72, Try.ntmps72
  obtain ⟨ok, hok⟩ : ∃ b, b = (st == 0) := ⟨_, rfl⟩
  rw [← hok]
  clear hok
  obtain ⟨y1, e1⟩ : ∃ z, z = pPost 1 y0 := ⟨_, rfl⟩
  have K1 : Hid (Ok (resLay dv ev) (1088) y1) := by rw [e1]; exact (Ok.post K0.out (sub_obj dv ev)).mono (by decide)
  have C := post_gen c F0 g y0 (resLay dv ev) (1000) 1 w0 A0.out K0.out (by decide) (sub_obj dv ev)
  rw [← e1] at C
  have D := hid C; have E1 := hid e1; clear C e1
  go_wp2_with fail
  refine D.out.mono ?_
  rintro e w1 ⟨rfl, F1, A1, g1⟩
  have G1 := hid (G0.out.trans g1.out); clear D g1
  go_wp2
  go_end0
  have hend : pFront 17 ok y0 = y1 := by
    rw [E1.out]; rfl
  rw [hend]
  exact ⟨⟨rfl, F1, A1, G1⟩, K1.out.mono (by decide)⟩

set_option maxRecDepth 100000 in
set_option maxHeartbeats 4000000 in
theorem front_18 (c : Nat) (F0 : Nat → Prop) (g : Nat) (y0 : X) (dv ev : Value) (w0 : World) (h : At w0 c F0 g y0) (hk : Ok (resLay dv ev) 1000 y0) :
    Calls Try.prog 72 #[.pointer (some ⟨c, 0, none⟩), .int .i64 18, .pointer (some ⟨g, 0, none⟩)] w0 (fun e w' => GQ w0 c F0 g (.tuple #[]) (pFront 18 (iv (y0.2 0) == 0) y0) e w' ∧ Ok (resLay dv ev) 4000000 (pFront 18 (iv (y0.2 0) == 0) y0)) := by
  have hst := (hk.ty 0 _ rfl).iv
  obtain ⟨st, hs⟩ : ∃ s, s = iv (y0.2 0) := ⟨_, rfl⟩
  rw [← hs] at hst ⊢
  have hcell : w0.cell? ⟨g, 0, none⟩ = some (.int .i64 st) := (h.bl.cell 0).trans hst
  have K0 : Hid (Ok (resLay dv ev) 1000 y0) := hk
  have A0 : Hid (At w0 c F0 g y0) := h
  have G0 : Hid (GG w0 F0 g w0 F0) := GG.refl _ _ _
  clear h hk hst hs
  go_enter Try.func72, Try.ntmps72
  obtain ⟨ok, hok⟩ : ∃ b, b = (st == 0) := ⟨_, rfl⟩
  rw [← hok]
  clear hok
  obtain ⟨y1, e1⟩ : ∃ z, z = pPost 1 y0 := ⟨_, rfl⟩
  have K1 : Hid (Ok (resLay dv ev) (1088) y1) := by rw [e1]; exact (Ok.post K0.out (sub_obj dv ev)).mono (by decide)
  have C := post_gen c F0 g y0 (resLay dv ev) (1000) 1 w0 A0.out K0.out (by decide) (sub_obj dv ev)
  rw [← e1] at C
  have D := hid C; have E1 := hid e1; clear C e1
  go_wp2_with fail
  refine D.out.mono ?_
  rintro e w1 ⟨rfl, F1, A1, g1⟩
  have G1 := hid (G0.out.trans g1.out); clear D g1
  go_wp2
  go_end0
  have hend : pFront 18 ok y0 = y1 := by
    rw [E1.out]; rfl
  rw [hend]
  exact ⟨⟨rfl, F1, A1, G1⟩, K1.out.mono (by decide)⟩

set_option maxRecDepth 100000 in
set_option maxHeartbeats 4000000 in
theorem front_19 (c : Nat) (F0 : Nat → Prop) (g : Nat) (y0 : X) (dv ev : Value) (w0 : World) (h : At w0 c F0 g y0) (hk : Ok (resLay dv ev) 1000 y0) :
    Calls Try.prog 72 #[.pointer (some ⟨c, 0, none⟩), .int .i64 19, .pointer (some ⟨g, 0, none⟩)] w0 (fun e w' => GQ w0 c F0 g (.tuple #[]) (pFront 19 (iv (y0.2 0) == 0) y0) e w' ∧ Ok (resLay dv ev) 4000000 (pFront 19 (iv (y0.2 0) == 0) y0)) := by
  have hst := (hk.ty 0 _ rfl).iv
  obtain ⟨st, hs⟩ : ∃ s, s = iv (y0.2 0) := ⟨_, rfl⟩
  rw [← hs] at hst ⊢
  have hcell : w0.cell? ⟨g, 0, none⟩ = some (.int .i64 st) := (h.bl.cell 0).trans hst
  have K0 : Hid (Ok (resLay dv ev) 1000 y0) := hk
  have A0 : Hid (At w0 c F0 g y0) := h
  have G0 : Hid (GG w0 F0 g w0 F0) := GG.refl _ _ _
  clear h hk hst hs
  go_enter Try.func72, Try.ntmps72
  obtain ⟨ok, hok⟩ : ∃ b, b = (st == 0) := ⟨_, rfl⟩
  rw [← hok]
  clear hok
  obtain ⟨y1, e1⟩ : ∃ z, z = pPost 1 y0 := ⟨_, rfl⟩
  have K1 : Hid (Ok (resLay dv ev) (1088) y1) := by rw [e1]; exact (Ok.post K0.out (sub_obj dv ev)).mono (by decide)
  have C := post_gen c F0 g y0 (resLay dv ev) (1000) 1 w0 A0.out K0.out (by decide) (sub_obj dv ev)
  rw [← e1] at C
  have D := hid C; have E1 := hid e1; clear C e1
  go_wp2_with fail
  refine D.out.mono ?_
  rintro e w1 ⟨rfl, F1, A1, g1⟩
  have G1 := hid (G0.out.trans g1.out); clear D g1
  go_wp2
  go_end0
  have hend : pFront 19 ok y0 = y1 := by
    rw [E1.out]; rfl
  rw [hend]
  exact ⟨⟨rfl, F1, A1, G1⟩, K1.out.mono (by decide)⟩

set_option maxRecDepth 100000 in
set_option maxHeartbeats 4000000 in
theorem front_20 (c : Nat) (F0 : Nat → Prop) (g : Nat) (y0 : X) (dv ev : Value) (w0 : World) (h : At w0 c F0 g y0) (hk : Ok (resLay dv ev) 1000 y0) :
    Calls Try.prog 72 #[.pointer (some ⟨c, 0, none⟩), .int .i64 20, .pointer (some ⟨g, 0, none⟩)] w0 (fun e w' => GQ w0 c F0 g (.tuple #[]) (pFront 20 (iv (y0.2 0) == 0) y0) e w' ∧ Ok (resLay dv ev) 4000000 (pFront 20 (iv (y0.2 0) == 0) y0)) := by
  have hst := (hk.ty 0 _ rfl).iv
  obtain ⟨st, hs⟩ : ∃ s, s = iv (y0.2 0) := ⟨_, rfl⟩
  rw [← hs] at hst ⊢
  have hcell : w0.cell? ⟨g, 0, none⟩ = some (.int .i64 st) := (h.bl.cell 0).trans hst
  have K0 : Hid (Ok (resLay dv ev) 1000 y0) := hk
  have A0 : Hid (At w0 c F0 g y0) := h
  have G0 : Hid (GG w0 F0 g w0 F0) := GG.refl _ _ _
  clear h hk hst hs
  go_enter Try.func72, Try.ntmps72
  obtain ⟨ok, hok⟩ : ∃ b, b = (st == 0) := ⟨_, rfl⟩
  rw [← hok]
  clear hok
  obtain ⟨y1, e1⟩ : ∃ z, z = pPost 1 y0 := ⟨_, rfl⟩
  have K1 : Hid (Ok (resLay dv ev) (1088) y1) := by rw [e1]; exact (Ok.post K0.out (sub_obj dv ev)).mono (by decide)
  have C := post_gen c F0 g y0 (resLay dv ev) (1000) 1 w0 A0.out K0.out (by decide) (sub_obj dv ev)
  rw [← e1] at C
  have D := hid C; have E1 := hid e1; clear C e1
  go_wp2_with fail
  refine D.out.mono ?_
  rintro e w1 ⟨rfl, F1, A1, g1⟩
  have G1 := hid (G0.out.trans g1.out); clear D g1
  go_wp2
  go_end0
  have hend : pFront 20 ok y0 = y1 := by
    rw [E1.out]; rfl
  rw [hend]
  exact ⟨⟨rfl, F1, A1, G1⟩, K1.out.mono (by decide)⟩

set_option maxRecDepth 100000 in
set_option maxHeartbeats 4000000 in
theorem front_21 (c : Nat) (F0 : Nat → Prop) (g : Nat) (y0 : X) (dv ev : Value) (w0 : World) (h : At w0 c F0 g y0) (hk : Ok (resLay dv ev) 1000 y0) :
    Calls Try.prog 72 #[.pointer (some ⟨c, 0, none⟩), .int .i64 21, .pointer (some ⟨g, 0, none⟩)] w0 (fun e w' => GQ w0 c F0 g (.tuple #[]) (pFront 21 (iv (y0.2 0) == 0) y0) e w' ∧ Ok (resLay dv ev) 4000000 (pFront 21 (iv (y0.2 0) == 0) y0)) := by
  have hst := (hk.ty 0 _ rfl).iv
  obtain ⟨st, hs⟩ : ∃ s, s = iv (y0.2 0) := ⟨_, rfl⟩
  rw [← hs] at hst ⊢
  have hcell : w0.cell? ⟨g, 0, none⟩ = some (.int .i64 st) := (h.bl.cell 0).trans hst
  have K0 : Hid (Ok (resLay dv ev) 1000 y0) := hk
  have A0 : Hid (At w0 c F0 g y0) := h
  have G0 : Hid (GG w0 F0 g w0 F0) := GG.refl _ _ _
  clear h hk hst hs
  go_enter Try.func72, Try.ntmps72
  obtain ⟨ok, hok⟩ : ∃ b, b = (st == 0) := ⟨_, rfl⟩
  rw [← hok]
  clear hok
  obtain ⟨y1, e1⟩ : ∃ z, z = pWcc 31 43 y0 := ⟨_, rfl⟩
  have K1 : Hid (Ok (resLay dv ev) (1116) y1) := by rw [e1]; exact (Ok.post (Ok.before K0.out (sub_before dv ev)) (sub_after dv ev)).mono (by decide)
  have C := fun w' (hm : Mods (fun _ => False) w0 w') => wcc_gen c F0 g y0 (resLay dv ev) (1000) 31 43 w' (A0.out.keep hm) K0.out (by decide) (sub_before dv ev) (sub_after dv ev)
  rw [← e1] at C
  have D := hid C; have E1 := hid e1; clear C e1
  go_wp2_with fail
  go_region_with (refine (D.out _ (Mods.drew _ _)).mono ?_; rintro e w1 ⟨rfl, F1, A1, g1⟩; have G1 := hid (G0.out.trans ((GG.new g (Mods.drew _ _)).trans g1.out)); clear D g1)
  go_wp2
  go_end0
  have hend : pFront 21 ok y0 = y1 := by
    rw [E1.out]; rfl
  rw [hend]
  exact ⟨⟨rfl, F1, A1, G1⟩, K1.out.mono (by decide)⟩

set_option maxRecDepth 100000 in
set_option maxHeartbeats 4000000 in
theorem front_101 (c : Nat) (F0 : Nat → Prop) (g : Nat) (y0 : X) (dv ev : Value) (w0 : World) (h : At w0 c F0 g y0) (hk : Ok (resLay dv ev) 1000 y0) :
    Calls Try.prog 72 #[.pointer (some ⟨c, 0, none⟩), .int .i64 101, .pointer (some ⟨g, 0, none⟩)] w0 (fun e w' => GQ w0 c F0 g (.tuple #[]) (pFront 101 (iv (y0.2 0) == 0) y0) e w' ∧ Ok (resLay dv ev) 4000000 (pFront 101 (iv (y0.2 0) == 0) y0)) := by
  have hst := (hk.ty 0 _ rfl).iv
  obtain ⟨st, hs⟩ : ∃ s, s = iv (y0.2 0) := ⟨_, rfl⟩
  rw [← hs] at hst ⊢
  have hcell : w0.cell? ⟨g, 0, none⟩ = some (.int .i64 st) := (h.bl.cell 0).trans hst
  have K0 : Hid (Ok (resLay dv ev) 1000 y0) := hk
  have A0 : Hid (At w0 c F0 g y0) := h
  have G0 : Hid (GG w0 F0 g w0 F0) := GG.refl _ _ _
  clear h hk hst hs
  go_enter Try.func72, Try.ntmps72
  obtain ⟨ok, hok⟩ : ∃ b, b = (st == 0) := ⟨_, rfl⟩
  rw [← hok]
  clear hok
  go_wp2
  go_end0
  have hend : pFront 101 ok y0 = y0 := by
    rfl
  rw [hend]
  exact ⟨⟨rfl, F0, A0, G0⟩, K0.out.mono (by decide)⟩

/-- The procedures that tell a Status. -/
def tells (k : Nat) : Prop := (1 ≤ k ∧ k ≤ 21) ∨ k = 101
theorem front_gen (k : Nat) (hk : tells k) (c : Nat) (F0 : Nat → Prop) (g : Nat) (y0 : X) (dv ev : Value) (w0 : World) (h : At w0 c F0 g y0) (hy : Ok (resLay dv ev) 1000 y0) :
    Calls Try.prog 72 #[.pointer (some ⟨c, 0, none⟩), .int .i64 (k : Int), .pointer (some ⟨g, 0, none⟩)] w0 (fun e w' => GQ w0 c F0 g (.tuple #[]) (pFront k (iv (y0.2 0) == 0) y0) e w' ∧ Ok (resLay dv ev) 4000000 (pFront k (iv (y0.2 0) == 0) y0)) := by
  have hc : k = 1 ∨ k = 2 ∨ k = 3 ∨ k = 4 ∨ k = 5 ∨ k = 6 ∨ k = 7 ∨ k = 8 ∨ k = 9 ∨ k = 10 ∨ k = 11 ∨ k = 12 ∨ k = 13 ∨ k = 14 ∨ k = 15 ∨ k = 16 ∨ k = 17 ∨ k = 18 ∨ k = 19 ∨ k = 20 ∨ k = 21 ∨ k = 101 := by unfold tells at hk; omega
  rcases hc with rfl | rfl | rfl | rfl | rfl | rfl | rfl | rfl | rfl | rfl | rfl | rfl | rfl | rfl | rfl | rfl | rfl | rfl | rfl | rfl | rfl | rfl
  · exact front_1 c F0 g y0 dv ev w0 h hy
  · exact front_2 c F0 g y0 dv ev w0 h hy
  · exact front_3 c F0 g y0 dv ev w0 h hy
  · exact front_4 c F0 g y0 dv ev w0 h hy
  · exact front_5 c F0 g y0 dv ev w0 h hy
  · exact front_6 c F0 g y0 dv ev w0 h hy
  · exact front_7 c F0 g y0 dv ev w0 h hy
  · exact front_8 c F0 g y0 dv ev w0 h hy
  · exact front_9 c F0 g y0 dv ev w0 h hy
  · exact front_10 c F0 g y0 dv ev w0 h hy
  · exact front_11 c F0 g y0 dv ev w0 h hy
  · exact front_12 c F0 g y0 dv ev w0 h hy
  · exact front_13 c F0 g y0 dv ev w0 h hy
  · exact front_14 c F0 g y0 dv ev w0 h hy
  · exact front_15 c F0 g y0 dv ev w0 h hy
  · exact front_16 c F0 g y0 dv ev w0 h hy
  · exact front_17 c F0 g y0 dv ev w0 h hy
  · exact front_18 c F0 g y0 dv ev w0 h hy
  · exact front_19 c F0 g y0 dv ev w0 h hy
  · exact front_20 c F0 g y0 dv ev w0 h hy
  · exact front_21 c F0 g y0 dv ev w0 h hy
  · exact front_101 c F0 g y0 dv ev w0 h hy

end Go.Proofs.Ytanknjpcgceccaa
