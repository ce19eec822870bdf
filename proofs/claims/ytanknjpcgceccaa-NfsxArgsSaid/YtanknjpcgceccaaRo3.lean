/- The reference's Out: time. -/
import Derived.Test.YtanknjpcgceccaaRo2
namespace Go.Proofs.Ytanknjpcgceccaa
open Go.RowKit

def TimeV.fn (t : TimeV) : Cells := fun j => t.cells[j]?
/-- A call that went through a box of its own. -/
theorem OAt.other {w w0 w1 : World} {c p : Nat} {F F' : Nat → Prop} {g h : Nat} {x : X} {y : X} (h0 : OAt w c p F g x) (hm : Mods (fun _ => False) w w0) (hh : w.heap.size ≤ h) (h1 : OAt w1 c p F' h y) (hg : GG w0 F h w1 F') :
    OAt w1 c p F' g (y.1, x.2) ∧ GG w F g w1 F' := by
  have hgg : GG w F g w1 F' := GG.other hm hh hg
  have hlt := h0.bl.lt
  exact ⟨⟨h1.co, (h0.bl.keep hm fun h => h).keep hg.mods fun hb => hb.elim (fun hb => h0.ap hb) fun e => by omega, hgg.apart h0.ap hlt⟩, hgg⟩

set_option maxRecDepth 100000 in
set_option maxHeartbeats 1000000 in
theorem time_out (c p : Nat) (F : Nat → Prop) (g : Nat) (x : X) (t : TimeV) (w : World) (h : OAt w c p F g x) (hs : x.1.size + 8 ≤ 1000000) (ht : t.good) :
    Calls Try.prog 41 #[.pointer (some ⟨c, 0, none⟩), .agg t.cells.toArray] w (OQ w c p F g (((x.1.num 4 t.sec).2.num 4 t.nsec).2, x.2)) := by
  obtain ⟨sec, nsec⟩ := t
  have hm0 : Mods (fun _ => False) w (w.alloc (.cells #[.int .u32 sec, .int .u32 nsec] 26)) := Mods.alloc _ _ _
  have hbl : Blk (w.alloc (.cells #[.int .u32 sec, .int .u32 nsec] 26)) w.heap.size (TimeV.fn ⟨sec, nsec⟩) := (Blk.new w _ _).congr (by funext j; simp [TimeV.fn, TimeV.cells])
  have h1 : OAt (w.alloc (.cells #[.int .u32 sec, .int .u32 nsec] 26)) c p F w.heap.size (x.1, TimeV.fn ⟨sec, nsec⟩) := ⟨h.co.keep hm0 fun _ _ h => h, hbl, fun hf => by have := h.co.lt _ hf; omega⟩
  have H := hid h; have H1 := hid h1; have HM := hid hm0; have HS := hid hs; have HT := hid ht
  clear h h1 hm0 hbl hs ht
  show Calls _ _ #[_, .agg #[.int .u32 sec, .int .u32 nsec]] _ _
  go_enter Try.func41, Try.ntmps41
  go_upto_region 1 with fail
  generalize w.alloc (.cells _ 26) = w1 at H1 HM ⊢
  refine OAt.put7 H1.out (wr_u32 (v := sec) (by have := HS.out; simp only; omega) HT.out.1 p) (fun _ _ _ _ _ h => h) rfl (by kernel_rfl) (n := 18) rfl rfl rfl (by decide) enter_u32 (o := 0) (fun w => by go_simp) (fun w => load_u32 w _ _ _) rfl (fun F2 w2 q1 q2 => ?_)
  simp only [Act.put, List.setIfInBounds_toArray, List.set_cons_succ, List.set_cons_zero]
  go_upto_region 2 with fail
  refine OAt.put7 q1.out (wr_u32 (v := nsec) (by have := HS.out; have := St.size_num x.1 4 sec; simp only; omega) HT.out.2 p) (fun _ _ _ _ _ h => h) rfl (by kernel_rfl) (n := 18) rfl rfl rfl (by decide) enter_u32 (o := 1) (fun w => by go_simp) (fun w => load_u32 w _ _ _) rfl (fun F3 w3 q3 q4 => ?_)
  simp only [Act.put, List.setIfInBounds_toArray, List.set_cons_succ, List.set_cons_zero]
  have hend := H.out.other HM.out (Nat.le_refl _) q3.out (q2.out.trans q4.out)
  have HE := hid hend
  clear q1 q2 q3 q4 hend H H1 HM
  go_wp2
  go_end0
  exact ⟨rfl, F3, HE.out.1, HE.out.2⟩

end Go.Proofs.Ytanknjpcgceccaa
