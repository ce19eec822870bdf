/- nfsx's coder: how, set, whether it reads or writes. -/
import Derived.Test.YtanknjpcgceccaaGen5
namespace Go.Proofs.Ytanknjpcgceccaa
open Go.RowKit

set_option maxRecDepth 100000 in
set_option maxHeartbeats 1000000 in
theorem how_gen (c : Nat) (F : Nat → Prop) (g : Nat) (x : X) (lay : List Ty) (n : Nat) (v t : Nat) (w : World) (h : At w c F g x) (hk : Ok lay n x) (hn : n + 12 ≤ 20000000) (hv : lay[v]? = some .int) (h0 : lay[t]? = some .u32) (h1 : lay[t + 1]? = some .u32) :
    Calls Try.prog 74 #[.pointer (some ⟨c, 0, none⟩), .pointer (some ⟨g, v, none⟩), .pointer (some ⟨g, t, none⟩)] w (GQ w c F g (.tuple #[]) (pHow v t x)) := by
  have HN := hid (h.number (lo := 0) (hi := 2) hk (by omega) hv)
  have HK := hid (hk.number (lo := 0) (hi := 2) hv)
  have HT := hid (And.intro h0 h1)
  have hun : pHow v t x = (let y := pNumber 0 2 v x; if iv (y.2 v) = 2 then pTime t y else (y.1, upd (upd y.2 t (.int .u32 0)) (t + 1) (.int .u32 0))) := rfl
  generalize pNumber 0 2 v x = y at HN HK hun
  simp only at hun
  have hcv := (HK.out.ty v _ hv).iv
  generalize hd : iv (y.2 v) = d at hun hcv
  by_cases h2 : d = 2
  · rw [if_pos h2] at hun
    rw [hun]
    subst h2
    clear h hk hv h0 h1 hun hd
    go_enter Try.func74, Try.ntmps74
    go_wp2_with fail
    refine HN.out.mono ?_
    rintro e w1 ⟨rfl, F1, q1, q2⟩
    have hcell := (q1.out.bl.cell v).trans hcv
    have HTI := hid (time_gen c F1 g y lay (n + 4) t w1 q1.out HK.out (by omega) HT.out.1 HT.out.2)
    clear HN hcv
    go_wp2_with fail
    refine HTI.out.mono ?_
    rintro e w2 ⟨rfl, F2, q3, q4⟩
    clear hcell HTI
    go_wp2
    go_end0
    exact ⟨rfl, F2, q3, q2.out.trans q4.out⟩
  · rw [if_neg h2] at hun
    rw [hun]
    have hd2 : (d == 2) = false := by simpa using h2
    clear h hk hv h0 h1 hun hd
    go_enter Try.func74, Try.ntmps74
    go_wp2_with fail
    refine HN.out.mono ?_
    rintro e w1 ⟨rfl, F1, q1, q2⟩
    have hcell := (q1.out.bl.cell v).trans hcv
    obtain ⟨a, ha, _⟩ := HK.out.ty t _ HT.out.1
    obtain ⟨b, hb, _⟩ := HK.out.ty (t + 1) _ HT.out.2
    have hc0 := (q1.out.bl.cell t).trans ha
    have hc1 := (q1.out.bl.cell (t + 1)).trans hb
    have hf0 := q1.out.bl.free t
    have hf1 := q1.out.bl.free (t + 1)
    have hs1 := q1.out.bl.set ha (.int .u32 0)
    have hs2 := hid (hs1.set (o := t + 1) (u := .int .u32 b) (by rw [upd_ne _ _ (by omega)]; exact hb) (.int .u32 0))
    have hms : Mods (fun k => k = g) w1 ((w1.setCell ⟨g, t, none⟩ (.int .u32 0)).setCell ⟨g, t + 1, none⟩ (.int .u32 0)) := (Mods.setCell (F := fun k => k = g) (a := ⟨g, t, none⟩) rfl _).trans (Mods.setCell (F := fun k => k = g) (a := ⟨g, t + 1, none⟩) rfl _)
    have hco := hid (q1.out.co.keep hms fun k hk e => q1.out.ap (e ▸ hk))
    have hgg := hid (q2.out.trans (GG.mine (F := F1) hms))
    have hap := hid q1.out.ap
    clear HN hcv hs1 hms ha hb q1 q2
    go_wp2
    go_end0
    exact ⟨rfl, F1, ⟨hco.out, hs2.out, hap.out⟩, hgg.out⟩

end Go.Proofs.Ytanknjpcgceccaa
