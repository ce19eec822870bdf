/- nfsx's coder: truth, row, text, number, whether it reads or writes. -/
import Derived.Test.YtanknjpcgceccaaGen2
namespace Go.Proofs.Ytanknjpcgceccaa
open Go.RowKit

theorem CO.c1_wr {w : World} {c : Nat} {F : Nat → Prop} {b : Bool} {out : List UInt8} (h : CO w c F (.wr b out)) : ∃ p, w.cell? ⟨c, 1, none⟩ = some (.pointer (some ⟨p, 0, none⟩)) := by
  obtain ⟨p, ao, cap, h, rfl⟩ := h; exact ⟨p, h.c1⟩
theorem CO.c1_rd {w : World} {c : Nat} {F : Nat → Prop} {inp : List UInt8} {pos : Nat} {err : Int} {b : Bool} (h : CO w c F (.rd inp pos err b)) : w.cell? ⟨c, 1, none⟩ = some (.pointer none) := by
  obtain ⟨r, ao, cap, h, rfl⟩ := h; exact h.c1

set_option maxRecDepth 100000 in
set_option maxHeartbeats 1000000 in
theorem truth_gen (c : Nat) (F : Nat → Prop) (s : St) (g : Nat) (A : Cells) (o : Nat) (v : Bool) (w : World) (h : CO w c F s) (hb : Blk w g A) (hg : ¬ F g) (hlen : s.size + 4 ≤ 20000000) (hv : A o = some (.bool v)) :
    Calls Try.prog 53 #[.pointer (some ⟨c, 0, none⟩), .pointer (some ⟨g, o, none⟩)] w (GP w c F g (.bool (s.truth v).1) (s.truth v).2 (upd A o (.bool (s.truth v).1))) := by
  cases s with
  | wr bad out =>
    obtain ⟨p, ao, cap, h, rfl⟩ := h
    refine (truthw_any c p ao cap bad out ⟨g, o, none⟩ v w h hlen ⟨(hb.cell o).trans hv, hg⟩).mono ?_
    rintro e w' ⟨ao', cap', rfl, h1, h2⟩
    obtain ⟨F', k1, k2, k3⟩ := CO.of_c h h1 h2 hb hg
    exact GP.mk k1 k2 (k3.congr (upd_self hv).symm)
  | rd inp pos err bad =>
    obtain ⟨r, ao, cap, h, rfl⟩ := h
    have H := hid h; have HB := hid hb; have HG := hid hg; have HV := hid hv
    have hc0 := h.c0
    have hc1 := h.c1
    have HCALL := hid (RDBool_any r ao cap inp pos err w h.rd)
    show Calls _ _ _ _ (GP w c (FR c r ao inp.length) g (.bool (rbool inp pos err).1) (.rd inp (rbool inp pos err).2.1 (rbool inp pos err).2.2 bad) (upd A o (.bool (rbool inp pos err).1)))
    clear h hb hg hv hlen
    generalize rbool inp pos err = q at HCALL ⊢
    obtain ⟨t, pos', err'⟩ := q
    simp only at HCALL ⊢
    go_enter Try.func53, Try.ntmps53
    go_wp2_with fail
    refine HCALL.out.mono ?_
    rintro e w2 ⟨rfl, hr, hm2⟩
    have hgr : g ≠ r := fun e => HG.out (.inr (.inl e))
    have hb2 : Blk w2 g A := HB.out.keep hm2 hgr
    have hcell2 := (hb2.cell o).trans HV.out
    have hfree2 := hb2.free o
    have hset := hid (hb2.set HV.out (.bool t))
    have hms : Mods (fun k => k = g) w2 (w2.setCell ⟨g, o, none⟩ (.bool t)) := Mods.setCell (F := fun k => k = g) (a := ⟨g, o, none⟩) rfl _
    have hcr3 := hid ((H.out.read hr hm2).keep hms (fun k hk e => HG.out (e ▸ hk)))
    have hm3 := hid ((hm2.mono (G := fun k => FR c r ao inp.length k ∨ k = g) fun _ _ h => .inl (.inr (.inl h))).trans (hms.mono fun _ _ h => .inr h))
    clear hr hm2 hb2 hms hc0 hc1
    go_wp2
    go_ret
    exact GP.mk (F' := FR c r ao inp.length) ⟨r, ao, cap, hcr3.out, rfl⟩ ⟨hm3.out, fun _ h => .inl h⟩ hset.out

/-- What 'row' leaves: the slice in cell o, its block. -/
def RowP (w : World) (c : Nat) (F : Nat → Prop) (g o : Nat) (xo : Option Addr) (n : Nat) (s : St) (res : List UInt8) (A : Cells) (e : Ending) (w' : World) : Prop :=
  ∃ F' xo' xc', e = .returned (.tuple #[]) ∧ CO w' c F' s ∧ GG w F g w' F' ∧ Blk w' g (upd A o (.slice xo' res.length xc')) ∧ SlB w' xo' xc' res ∧ (∀ k, rb xo' res.length k → k < w'.heap.size ∧ ¬ F' k ∧ k ≠ g ∧ (rb xo n k ∨ w.heap.size ≤ k))

set_option maxRecDepth 100000 in
set_option maxHeartbeats 1000000 in
theorem row_gen (c : Nat) (F : Nat → Prop) (s : St) (g : Nat) (A : Cells) (o : Nat) (most : Int) (xo : Option Addr) (xc : Nat) (xs : List UInt8) (w : World) (h : CO w c F s) (hb : Blk w g A) (hg : ¬ F g) (hlen : s.size + xs.length + 8 ≤ 20000000) (hv : A o = some (.slice xo xs.length xc))
    (hs : SlB w xo xc xs) (hxb : ∀ k, rb xo xs.length k → k < w.heap.size ∧ ¬ F k ∧ k ≠ g) :
    Calls Try.prog 58 #[.pointer (some ⟨c, 0, none⟩), .pointer (some ⟨g, o, none⟩), .int .i64 most] w (RowP w c F g o xo xs.length (s.row most xs).2 (s.row most xs).1 A) := by
  cases s with
  | wr bad out =>
    obtain ⟨p, ao, cap, h, rfl⟩ := h
    refine (roww_any c p ao cap bad out ⟨g, o, none⟩ most xo xc xs w h (by simpa [St.size] using hlen) ⟨(hb.cell o).trans hv, hg⟩ hs (fun k hk => ⟨(hxb k hk).1, (hxb k hk).2.1⟩)).mono ?_
    rintro e w' ⟨ao', cap', rfl, h1, h2⟩
    obtain ⟨F', k1, k2, k3⟩ := CO.of_c h h1 h2 hb hg
    exact ⟨F', xo, xc, rfl, k1, k2, k3.congr (upd_self hv).symm, hs.keep h2.mods fun k hk => (hxb k hk).2.1, fun k hk => ⟨Nat.lt_of_lt_of_le (hxb k hk).1 h2.mods.size, k2.apart (hxb k hk).2.1 (hxb k hk).1, (hxb k hk).2.2, .inl hk⟩⟩
  | rd inp pos err bad =>
    obtain ⟨r, ao, cap, h, rfl⟩ := h
    have H := hid h; have HB := hid hb; have HG := hid hg; have HV := hid hv
    have hc0 := h.c0
    have hc1 := h.c1
    have hglt := hb.lt
    have HCALL := hid (RDBytes_any most r ao cap inp pos err w h.rd)
    show Calls _ _ _ _ (RowP w c (FR c r ao inp.length) g o xo xs.length (.rd inp (rbytes most inp pos err).2.1 (rbytes most inp pos err).2.2 bad) (rbytes most inp pos err).1 A)
    clear h hb hg hv hlen hs hxb
    generalize rbytes most inp pos err = q at HCALL ⊢
    obtain ⟨res, pos', err'⟩ := q
    simp only at HCALL ⊢
    go_enter Try.func58, Try.ntmps58
    go_wp2_with fail
    refine HCALL.out.mono ?_
    rintro e w2 ⟨yo, yc, rfl, ho, hf, hr, hm2⟩
    have hgr : g ≠ r := fun e => HG.out (.inr (.inl e))
    have hb2 : Blk w2 g A := HB.out.keep hm2 hgr
    have hcell2 := (hb2.cell o).trans HV.out
    have hfree2 := hb2.free o
    have hset := hid (hb2.set HV.out (.slice yo res.length yc))
    have hms : Mods (fun k => k = g) w2 (w2.setCell ⟨g, o, none⟩ (.slice yo res.length yc)) := Mods.setCell (F := fun k => k = g) (a := ⟨g, o, none⟩) rfl _
    have hcr3 := hid ((H.out.read hr hm2).keep hms (fun k hk e => HG.out (e ▸ hk)))
    have hm3 := hid ((hm2.mono (G := fun k => FR c r ao inp.length k ∨ k = g) fun _ _ h => .inl (.inr (.inl h))).trans (hms.mono fun _ _ h => .inr h))
    have hsl := hid (ho.sl.keep hms fun k hk e => by have := hf k hk.2; omega)
    have hlt2 := hid ho.lt
    have HF := hid hf
    clear hr hm2 hb2 hms hc0 hc1 ho hf
    go_wp2
    go_end0
    refine ⟨FR c r ao inp.length, yo, yc, rfl, ⟨r, ao, cap, hcr3.out, rfl⟩, ⟨hm3.out, fun _ h => .inl h⟩, hset.out, hsl.out, fun k hk => ?_⟩
    have h1 := HF.out k hk.2
    refine ⟨by simpa using hlt2.out k hk.2, fun hf => ?_, by omega, .inr h1⟩
    rcases hf with e | e | e
    · have := H.out.lt; omega
    · have := H.out.rd.lt; omega
    · have := H.out.rd.rb_lt _ e; omega

set_option maxRecDepth 100000 in
set_option maxHeartbeats 2000000 in
theorem text_gen (c : Nat) (F : Nat → Prop) (s : St) (g : Nat) (A : Cells) (o : Nat) (most : Int) (xs : List UInt8) (w : World) (h : CO w c F s) (hb : Blk w g A) (hg : ¬ F g) (hlen : s.size + xs.length + 8 ≤ 20000000) (hv : A o = some (.string (str xs))) :
    Calls Try.prog 51 #[.pointer (some ⟨c, 0, none⟩), .pointer (some ⟨g, o, none⟩), .int .i64 most] w (GP w c F g (.tuple #[]) (s.row most xs).2 (upd A o (.string (str (s.row most xs).1)))) := by
  have H := hid h; have HB := hid hb; have HG := hid hg; have HV := hid hv
  have hcell := (hb.cell o).trans hv
  have hglt := hb.lt
  obtain ⟨cp, ob, heq, hsl⟩ := conv_sb xs w
  have HSL := hid hsl
  clear h hb hg hsl hv
  go_enter Try.func51, Try.ntmps51
  go_wp2_with fail
  have hm0 : Mods (fun _ => False) w ((w.alloc ob).alloc (.cells #[.slice (some ⟨w.heap.size, 0, none⟩) xs.length cp] 22)).drew := ((Mods.alloc _ w ob).trans (Mods.alloc _ _ _)).trans (Mods.drew _ _)
  have hsz : ((w.alloc ob).alloc (.cells #[.slice (some ⟨w.heap.size, 0, none⟩) xs.length cp] 22)).drew.heap.size = w.heap.size + 2 := by simp
  have hob : ((w.alloc ob).alloc (.cells #[.slice (some ⟨w.heap.size, 0, none⟩) xs.length cp] 22)).drew.heap[w.heap.size + 1]? = some (.cells #[.slice (some ⟨w.heap.size, 0, none⟩) xs.length cp] 22 (0, 0)) := by
    have := heap_alloc_new (w.alloc ob) (.cells #[.slice (some ⟨w.heap.size, 0, none⟩) xs.length cp] 22)
    rw [show (w.alloc ob).heap.size = w.heap.size + 1 from by simp] at this
    exact this
  have hs0 : SlB ((w.alloc ob).alloc (.cells #[.slice (some ⟨w.heap.size, 0, none⟩) xs.length cp] 22)).drew (some ⟨w.heap.size, 0, none⟩) cp xs := HSL.out.alloc _
  generalize ((w.alloc ob).alloc (.cells #[.slice (some ⟨w.heap.size, 0, none⟩) xs.length cp] 22)).drew = w0 at hm0 hsz hob hs0 ⊢
  have hnew : ∀ k, w.heap.size ≤ k → ¬ F k := fun k hk hf => by have := H.out.lt k hf; omega
  have hbl : Blk w0 (w.heap.size + 1) (fun j => #[Value.slice (some ⟨w.heap.size, 0, none⟩) xs.length cp][j]?) := ⟨by omega, fun j => by rw [cell_of_row _ _ _ _ _ _ hob], fun j => by unfold World.frozen?; rw [hob]; simp⟩
  refine (row_gen c F s (w.heap.size + 1) _ 0 most _ cp xs w0 (H.out.keep hm0 fun _ _ h => h) hbl (hnew _ (by omega)) hlen rfl hs0 (fun k hk => by
    have hk' : w.heap.size = k := hk.2
    exact ⟨by omega, hnew k (by omega), by omega⟩)).mono ?_
  rintro e w1 ⟨F1, xo1, xc1, rfl, hw1, hg1, hb1, hs1, _⟩
  have hvar1 := (hb1.cell 0).trans (upd_at _ _ _)
  have hcv := run_conv hs1
  have hg01 : GG w F g w1 F1 := GG.other hm0 (by omega) hg1
  have hbg : Blk w1 g A := (HB.out.keep hm0 fun h => h).keep hg1.mods (fun hf => hf.elim HG.out (by omega))
  have hcell1 := (hbg.cell o).trans HV.out
  have hfr1 := hbg.free o
  have hset := hid (hbg.set HV.out (.string (str (s.row most xs).1)))
  have hms : Mods (fun k => k = g) w1 (w1.setCell ⟨g, o, none⟩ (.string (str (s.row most xs).1))) := Mods.setCell (F := fun k => k = g) (a := ⟨g, o, none⟩) rfl _
  have hapart := hg01.apart HG.out hglt
  have hfin := hid (hw1.keep hms fun k hk e => hapart (e ▸ hk))
  have hgf := hid (hg01.trans (GG.mine (F := F1) hms))
  obtain ⟨res, hres⟩ : ∃ z, z = (s.row most xs).1 := ⟨_, rfl⟩
  rw [← hres] at hvar1 hcv hset hfin hgf
  have HRES := hid hres
  clear hg1 hw1 hg01 hnew hs0 hbl hob hm0 HSL heq hcell hb1 hs1 hbg hms hapart hres
  go_wp2
  go_end0
  obtain rfl := HRES.out
  exact GP.mk hfin.out hgf.out hset.out

end Go.Proofs.Ytanknjpcgceccaa
