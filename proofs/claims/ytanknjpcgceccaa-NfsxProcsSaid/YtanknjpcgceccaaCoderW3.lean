/- nfsx's coder, where it writes: truth, row. (Printed by wip/tools/gen_coderw3.py.) -/
import Derived.Test.YtanknjpcgceccaaCoderW2
namespace Go.Proofs.Ytanknjpcgceccaa
open Go.RowKit

set_option maxRecDepth 100000 in
set_option maxHeartbeats 2000000 in
theorem truthw_any (c p : Nat) (ao : Option Addr) (cap : Nat) (bad : Bool) (bs : List UInt8) (a : Addr) (v : Bool) (w1 : World) (h : CW w1 c p ao cap bad bs) (hlen : bs.length + 4 ≤ 1000000) (hx : w1.cell? a = some (.bool v) ∧ ¬ FC c p ao a.block) :
    Calls Try.prog 53 #[.pointer (some ⟨c, 0, none⟩), .pointer (some a)] w1 (CPost w1 c p ao (.bool v) bad (bs ++ be 4 (boolNum v))) := by
  have H1 := hid h; have HX := hid hx; have hcell := hx.1; have hc1 := h.c1; have hg1 := hid (CGrew.refl w1 c p ao); clear h hx
  go_enter Try.func53, Try.ntmps53
  go_wp2_with fail
  refine wp_region_held_drew (S := fun w' => w'.cell? ⟨c, 1, none⟩ = some (.pointer (some ⟨p, 0, none⟩)) ∧ w'.cell? a = some (.bool v)) (by kernel_rfl) ?hS (fun hHeld => ?_)
  case hS => exact ⟨by simpa using hc1, by simpa using hcell⟩
  refine wpAnyH_take (i := 0) (v := ?_) rfl (by kernel_rfl) (by kernel_rfl) (by kernel_rfl) (fun _ _ _ h => h) (Or.inl ⟨by rfl, ?hy⟩) hHeld ?_
  case hy => intro w hSw; (try dsimp only at hSw); go_simp; try with_reducible rfl
  simp only [Act.put]
  refine wpAnyH_take (i := 1) (v := ?_) rfl (by kernel_rfl) (by kernel_rfl) (by kernel_rfl) (fun _ _ _ h => h) (Or.inl ⟨by rfl, ?hy⟩) hHeld ?_
  case hy => intro w hSw; (try dsimp only at hSw); go_simp; try with_reducible rfl
  simp only [Act.put]
  refine wpAnyH_take (i := 2) (v := ?_) rfl (by kernel_rfl) (by kernel_rfl) (by kernel_rfl) (fun _ _ _ h => h) (Or.inl ⟨by rfl, ?hy⟩) hHeld ?_
  case hy => intro w hSw; (try dsimp only at hSw); go_simp; try with_reducible rfl
  simp only [Act.put]
  refine wpAnyH_take (i := 3) (v := ?_) rfl (by kernel_rfl) (by kernel_rfl) (by kernel_rfl) (fun _ _ _ h => h) (Or.inl ⟨by rfl, ?hy⟩) hHeld ?_
  case hy => intro w hSw; (try dsimp only at hSw); go_simp; try with_reducible rfl
  simp only [Act.put]
  refine wpAnyH_take (i := 4) (v := ?_) rfl (by kernel_rfl) (by kernel_rfl) (by kernel_rfl) (fun _ _ _ h => h) (Or.inl ⟨by rfl, ?hy⟩) hHeld ?_
  case hy => intro w hSw; (try dsimp only at hSw); go_simp; try with_reducible rfl
  simp only [Act.put]
  refine wpAnyH_take (i := 5) (v := ?_) rfl (by kernel_rfl) (by kernel_rfl) (by kernel_rfl) (fun _ _ _ h => h) (Or.inl ⟨by rfl, ?hy⟩) hHeld ?_
  case hy => intro w hSw; (try dsimp only at hSw); go_simp; try with_reducible rfl
  simp only [Act.put]
  refine wpAnyH_take (i := 6) (v := ?_) rfl (by kernel_rfl) (by kernel_rfl) (by kernel_rfl) (fun _ _ _ h => h) (Or.inl ⟨by rfl, ?hy⟩) hHeld ?_
  case hy => intro w hSw; (try dsimp only at hSw); go_simp; try with_reducible rfl
  simp only [Act.put]
  refine wpAnyH_ready (rs := [7]) (by kernel_rfl) (by simp) ?_
  refine AllReadyH.cons rfl (fun K hK => ?_) AllReadyH.nil
  go_simp
  refine hK.out _ _ ?hS (fun hHeld2 => ?_)
  case hS => exact ⟨((Mods.alloc (fun _ => False) w1 _).trans (Mods.drew _ _)).cell hc1 (fun h => h), ((Mods.alloc (fun _ => False) w1 _).trans (Mods.drew _ _)).cell hcell (fun h => h)⟩
  clear hK K hHeld
  have hHeld := hHeld2
  clear hHeld2
  refine wpAnyH_ready (rs := [8]) (by kernel_rfl) (by simp) ?_
  refine AllReadyH.cons rfl (fun K hK => ?_) AllReadyH.nil
  go_simp
  refine (Bool_any p ao cap bs _ _ [v] _ (H1.out.wr.new2 ((Mods.drew (fun _ => False) w1).trans (Mods.alloc (fun _ => False) _ _))) (by simp; omega) (Sl.one _ _ _) (fun q hq => ?hap)).mono ?_
  case hap =>
    have hq' : w1.heap.size = q := by simpa [blk] using hq.2
    subst hq'
    exact ⟨by have := H1.out.wr.lt; omega, fun h' => by have := H1.out.wr.own.lt _ h'; omega⟩
  rintro e w2 ⟨ao2, cap2, rfl, hw2, hg2⟩
  have hg02 : WGrew w1 p ao w2 ao2 := ⟨((Mods.drew _ w1).trans (Mods.alloc _ _ _)).trans hg2.mods, fun k hk => by
    rcases hg2.fresh k hk with h | h
    · exact .inl h
    · simp at h; exact .inr (by omega)⟩
  have hcw2 := hid (H1.out.wrote hw2 hg02)
  have hgg := hid (CGrew.trans hg1.out (hg02.c (c := c)))
  clear hw2 hg2 hg02
  go_simp
  refine hK.out _ _ ?hS (fun hHeld2 => ?_)
  case hS => exact ⟨hcw2.out.c1, hgg.out.mods.cell HX.out.1 HX.out.2⟩
  clear hK K hHeld
  have hHeld := hHeld2
  clear hHeld2
  refine wpAnyH_done (by kernel_rfl) ?_ _
  clear hHeld
  have hcell2 := hgg.out.mods.cell HX.out.1 HX.out.2
  have hfin : Hid (CW w2 c p ao2 cap2 bad (bs ++ be 4 (boolNum v))) := hid (by have h1 := hcw2.out; simpa [bes] using h1)
  clear hc1 hcell
  go_wp2
  go_ret
  exact ⟨ao2, cap2, rfl, hfin.out, hgg.out⟩

set_option maxRecDepth 100000 in
set_option maxHeartbeats 2000000 in
theorem roww_any (c p : Nat) (ao : Option Addr) (cap : Nat) (bad : Bool) (bs : List UInt8) (a : Addr) (most : Int) (xo : Option Addr) (xc : Nat) (xs : List UInt8) (w : World) (h : CW w c p ao cap bad bs) (hlen : bs.length + xs.length + 8 ≤ 1000000) (hx : w.cell? a = some (.slice xo xs.length xc) ∧ ¬ FC c p ao a.block)
    (hs : SlB w xo xc xs) (hxb : ∀ k, rb xo xs.length k → k < w.heap.size ∧ ¬ FC c p ao k) :
    Calls Try.prog 58 #[.pointer (some ⟨c, 0, none⟩), .pointer (some a), .int .i64 most] w (CPost w c p ao (.tuple #[]) (bad || !decide ((xs.length : Int) ≤ most)) (bs ++ row xs)) := by
  have H := hid h; have HX := hid hx; have HS0 := hid hs; have HXB0 := hid hxb
  have hcell := hx.1; have hc1 := h.c1; clear h hx hs hxb
  go_enter Try.func58, Try.ntmps58
  go_wp2_with fail
  refine (must_any c p ao cap bad _ bs w H.out).mono ?_
  rintro e w1 ⟨ao1, cap1, rfl, hw1, hg1'⟩
  have H1 := hid hw1
  have hg1 := hid hg1'
  have HSL := hid (HS0.out.keep hg1'.mods (fun k hk => (HXB0.out k hk).2))
  have HXB : Hid (∀ k, rb xo xs.length k → k < w1.heap.size ∧ ¬ FC c p ao1 k) := fun k hk => ⟨Nat.lt_of_lt_of_le (HXB0.out k hk).1 hg1'.mods.size, hg1'.apart (HXB0.out k hk).2 (HXB0.out k hk).1⟩
  have hcell := hg1'.mods.cell HX.out.1 HX.out.2
  have hc1 := hw1.c1
  clear hw1 hg1' HS0 HXB0
  go_wp2_with fail
  refine wp_region_held_drew (S := fun w' => w'.cell? ⟨c, 1, none⟩ = some (.pointer (some ⟨p, 0, none⟩)) ∧ w'.cell? a = some (.slice xo xs.length xc)) (by kernel_rfl) ?hS (fun hHeld => ?_)
  case hS => exact ⟨by simpa using hc1, by simpa using hcell⟩
  refine wpAnyH_take (i := 0) (v := ?_) rfl (by kernel_rfl) (by kernel_rfl) (by kernel_rfl) (fun _ _ _ h => h) (Or.inl ⟨by rfl, ?hy⟩) hHeld ?_
  case hy => intro w hSw; (try dsimp only at hSw); go_simp; try with_reducible rfl
  simp only [Act.put]
  refine wpAnyH_take (i := 1) (v := ?_) rfl (by kernel_rfl) (by kernel_rfl) (by kernel_rfl) (fun _ _ _ h => h) (Or.inl ⟨by rfl, ?hy⟩) hHeld ?_
  case hy => intro w hSw; (try dsimp only at hSw); go_simp; try with_reducible rfl
  simp only [Act.put]
  refine wpAnyH_take (i := 2) (v := ?_) rfl (by kernel_rfl) (by kernel_rfl) (by kernel_rfl) (fun _ _ _ h => h) (Or.inl ⟨by rfl, ?hy⟩) hHeld ?_
  case hy => intro w hSw; (try dsimp only at hSw); go_simp; try with_reducible rfl
  simp only [Act.put]
  refine wpAnyH_take (i := 3) (v := ?_) rfl (by kernel_rfl) (by kernel_rfl) (by kernel_rfl) (fun _ _ _ h => h) (Or.inl ⟨by rfl, ?hy⟩) hHeld ?_
  case hy => intro w hSw; (try dsimp only at hSw); go_simp; try with_reducible rfl
  simp only [Act.put]
  refine wpAnyH_take (i := 4) (v := ?_) rfl (by kernel_rfl) (by kernel_rfl) (by kernel_rfl) (fun _ _ _ h => h) (Or.inl ⟨by rfl, ?hy⟩) hHeld ?_
  case hy => intro w hSw; (try dsimp only at hSw); go_simp; try with_reducible rfl
  simp only [Act.put]
  refine wpAnyH_take (i := 5) (v := ?_) rfl (by kernel_rfl) (by kernel_rfl) (by kernel_rfl) (fun _ _ _ h => h) (Or.inl ⟨by rfl, ?hy⟩) hHeld ?_
  case hy => intro w hSw; (try dsimp only at hSw); go_simp; try with_reducible rfl
  simp only [Act.put]
  refine wpAnyH_take (i := 6) (v := ?_) rfl (by kernel_rfl) (by kernel_rfl) (by kernel_rfl) (fun _ _ _ h => h) (Or.inl ⟨by rfl, ?hy⟩) hHeld ?_
  case hy => intro w hSw; (try dsimp only at hSw); go_simp; try with_reducible rfl
  simp only [Act.put]
  refine wpAnyH_ready (rs := [7]) (by kernel_rfl) (by simp) ?_
  refine AllReadyH.cons rfl (fun K hK => ?_) AllReadyH.nil
  go_simp
  refine hK.out _ _ ?hS (fun hHeld2 => ?_)
  case hS => exact ⟨((Mods.alloc (fun _ => False) w1 _).trans (Mods.drew _ _)).cell hc1 (fun h => h), ((Mods.alloc (fun _ => False) w1 _).trans (Mods.drew _ _)).cell hcell (fun h => h)⟩
  clear hK K hHeld
  have hHeld := hHeld2
  clear hHeld2
  refine wpAnyH_ready (rs := [8]) (by kernel_rfl) (by simp) ?_
  refine AllReadyH.cons rfl (fun K hK => ?_) AllReadyH.nil
  go_simp
  refine (Bytes_any p ao1 cap1 bs _ _ [(xo, xc, xs)] _ (H1.out.wr.new2 ((Mods.drew (fun _ => False) w1).trans (Mods.alloc (fun _ => False) _ _))) xs.length (by simp) (by simp; omega) (Sl.one _ _ _) (fun q hq => ?hap) (by
    intro s hs
    simp only [List.mem_singleton] at hs
    subst hs
    exact ⟨HSL.out.keep ((Mods.drew (fun _ => False) w1).trans (Mods.alloc (fun _ => False) _ _)) (fun _ _ h => h), fun k hk => ⟨by have := (HXB.out k hk).1; simp; omega, fun e => (HXB.out k hk).2 (.inr (.inl e)), fun e => (HXB.out k hk).2 (.inr (.inr e))⟩⟩)).mono ?_
  case hap =>
    have hq' : w1.heap.size = q := by simpa [blk] using hq.2
    subst hq'
    exact ⟨by have := H1.out.wr.lt; omega, fun h' => by have := H1.out.wr.own.lt _ h'; omega⟩
  rintro e w2 ⟨ao2, cap2, rfl, hw2, hg2⟩
  have hg02 : WGrew w1 p ao1 w2 ao2 := ⟨((Mods.drew _ w1).trans (Mods.alloc _ _ _)).trans hg2.mods, fun k hk => by
    rcases hg2.fresh k hk with h | h
    · exact .inl h
    · simp at h; exact .inr (by omega)⟩
  have hcw2 := hid (H1.out.wrote hw2 hg02)
  have hgg := hid (CGrew.trans hg1.out (hg02.c (c := c)))
  clear hw2 hg2 hg02
  go_simp
  refine hK.out _ _ ?hS (fun hHeld2 => ?_)
  case hS => exact ⟨hcw2.out.c1, hgg.out.mods.cell HX.out.1 HX.out.2⟩
  clear hK K hHeld
  have hHeld := hHeld2
  clear hHeld2
  refine wpAnyH_done (by kernel_rfl) ?_ _
  clear hHeld
  have hfin : Hid (CW w2 c p ao2 cap2 (bad || !decide ((xs.length : Int) ≤ most)) (bs ++ row xs)) := hid (by have h1 := hcw2.out; simpa using h1)
  clear hc1 hcell
  go_wp2
  go_end0
  exact ⟨ao2, cap2, rfl, hfin.out, hgg.out⟩

end Go.Proofs.Ytanknjpcgceccaa
