/- nfsx's coder: res, with any lines of a directory. (Printed by wip/tools/gen_gen26.py out of XGen20.) -/
import Derived.Test.YtanknjpcgceccaaGen25
namespace Go.Proofs.Ytanknjpcgceccaa
open Go.RowKit

def rTellsE (k : Nat) (x : X) (ds : List UInt8) (es : List EntryV) : X × List UInt8 × List EntryV := if iv ((rFront k x).2 0) == 0 && !(rFront k x).1.bad then gAllE k (rFront k x) ds es else (rFront k x, ds, es)

set_option maxRecDepth 100000 in
set_option maxHeartbeats 4000000 in
theorem res_tellsE (k : Nat) (hk : tells k) (c : Nat) (F0 : Nat → Prop) (g : Nat) (x : X) (xo : Option Addr) (xc : Nat) (ds : List UInt8) (eo : Option Addr) (ec : Nat) (es : List EntryV) (w0 : World) (hS : ResS w0 c F0 g x xo xc ds eo ec es) (hx : Ok (resLay (.slice xo ds.length xc) (.slice eo es.length ec)) 0 x)
    (hlen : ds.length ≤ 2000000) (hrd : x.1.isWr = false → es = []) (hroom : roomFrom 0 es ≤ 5000000) (hel : es.length ≤ 9223372036854775807) :
    Calls Try.prog 49 #[.pointer (some ⟨c, 0, none⟩), .int .i64 (k : Int), .pointer (some ⟨g, 0, none⟩)] w0 (ResPE w0 c F0 g xo ds.length eo (rTellsE k x ds es)) := by
  have h := hS.at_
  have S0 := hid hS; clear hS
  have HK := hid hk; have HLN := hid hlen; have HROOM := hid hroom; have HEL := hid hel
  have HRD := hid hrd
  have q102 : ((k : Int) == 102) = false := by unfold tells at hk; simp; omega
  have q0 : ((k : Int) == 0) = false := by unfold tells at hk; simp; omega
  have q100 : ((k : Int) == 100) = false := by unfold tells at hk; simp; omega
  have q103 : ((k : Int) == 103) = false := by unfold tells at hk; simp; omega
  have q104 : ((k : Int) == 104) = false := by unfold tells at hk; simp; omega
  have q105 : ((k : Int) == 105) = false := by unfold tells at hk; simp; omega
  have hst := (hx.ty 0 _ rfl).iv
  have hcell := (h.bl.cell 0).trans hst
  obtain ⟨st, hs0⟩ : ∃ s, s = iv (x.2 0) := ⟨_, rfl⟩
  rw [← hs0] at hcell
  obtain ⟨s1, hs1⟩ : ∃ s, s = pStat0 x := ⟨_, rfl⟩
  have hz1 : s1.size ≤ 0 := by
    rw [hs1, pStat0]; split
    · rw [St.size_must]; exact hx.size
    · exact hx.size
  obtain ⟨r, hr⟩ : ∃ r, r = s1.number 0 4294967295 st := ⟨_, rfl⟩
  have hzr : r.2.size ≤ 4 := by rw [hr]; exact Nat.le_trans (St.size_number _ _ _ _) (by omega)
  obtain ⟨y1, hy1⟩ : ∃ y : X, y = (r.2, upd x.2 0 (.int .i64 r.1)) := ⟨_, rfl⟩
  have K1 : Hid (Ok (resLay (.slice xo ds.length xc) (.slice eo es.length ec)) 1000 y1) := by rw [hy1]; exact ⟨hx.ty.upd' (o := 0) rfl ⟨r.1, rfl⟩, by simp only; omega⟩
  obtain ⟨y2, hy2⟩ : ∃ y : X, y = pMust (knownB r.1) y1 := ⟨_, rfl⟩
  have K2 : Hid (Ok (resLay (.slice xo ds.length xc) (.slice eo es.length ec)) 1000 y2) := by rw [hy2]; exact K1.out.must _
  have h20 : y2.2 0 = some (.int .i64 r.1) := by rw [hy2, hy1]; exact upd_at x.2 0 (.int .i64 r.1)
  have hstat : pStat x = y2 := by rw [hy2, hy1, hr, hs1, hs0]; rfl
  obtain ⟨y3, hy3⟩ : ∃ y : X, y = rFront k x := ⟨_, rfl⟩
  have hfront : y3 = pFront k (iv (y2.2 0) == 0) y2 := by rw [hy3, rFront, hstat]
  have HEND : Hid (rTellsE k x ds es = if iv (y3.2 0) == 0 && !y3.1.bad then gAllE k y3 ds es else (y3, ds, es)) := by show _ = _; rw [rTellsE, ← hy3]
  have HR3 : Hid (y3.1.isWr = false → es = []) := fun hw => HRD.out (by rw [← hw, hy3]; exact ((like_rFront k x).1).symm)
  have X0 : Hid (x.2 0 = some (.int .i64 st)) := by show x.2 0 = _; rw [hst, hs0]
  have A0 := hid h; have HS0 := hid hs0; have HS1 := hid hs1; have HZ1 := hid hz1; have HR := hid hr; have HY1 := hid hy1; have HY2 := hid hy2; have H20 := hid h20; have HF := hid hfront
  clear hk hlen hrd hroom hel hst hs0 hs1 hz1 hr hzr hy1 hy2 h20 hstat hy3 hfront hx h
  go_enter Try.func49, Try.ntmps49
  go_upto_region 14 with fail
  have hma : Mods (fun _ => False) w0 (w0.alloc (.cells #[.int .i64 st] 3)) := Mods.alloc _ _ _
  have hbl : Blk (w0.alloc (.cells #[.int .i64 st] 3)) w0.heap.size (fun j => #[Value.int .i64 st][j]?) := Blk.new w0 _ _
  have hlt0 : w0.heap.size < (w0.alloc (.cells #[.int .i64 st] 3)).heap.size := by simp
  generalize w0.alloc (.cells #[.int .i64 st] 3) = w1 at hma hbl hlt0 ⊢
  obtain ⟨hh, hhe⟩ : ∃ z, z = w0.heap.size := ⟨_, rfl⟩
  rw [← hhe] at hbl hlt0 ⊢
  have A1 : Hid (At w1 c F0 g x) := A0.out.keep hma
  have G1 : Hid (GG w0 F0 g w1 F0) := GG.new g hma
  have HGH : Hid (g ≠ hh) := by have := A0.out.bl.lt; show g ≠ hh; omega
  have HFH : Hid (¬ F0 hh) := fun hf => by have := A0.out.co.lt _ hf; omega
  have HHE : Hid (hh = w0.heap.size) := hhe
  have HBL := hid hbl; have HLT0 := hid hlt0
  clear hma hbl hlt0 hhe hcell
  have hcell : w1.cell? ⟨g, 0, none⟩ = some (.int .i64 st) := (A1.out.bl.cell 0).trans X0.out
  obtain ⟨pp, hc1, hpp⟩ : ∃ pp : Option Addr, w1.cell? ⟨c, 1, none⟩ = some (.pointer pp) ∧ x.1.isWr = pp.isSome := by
    rcases A1.out.co.c1 with ⟨hw, p, h⟩ | ⟨hw, h⟩
    · exact ⟨some p, h, hw⟩
    · exact ⟨none, h, hw⟩
  have HPP := hid hpp
  clear hpp
  go_upto_if 41 with fail
  go_cut [] from 8 (fun wx => ∃ F', Hid (At wx c F' g (s1, x.2)) ∧ Hid (GG w0 F0 g wx F') ∧ Hid (Blk wx hh (fun j => #[Value.int .i64 st][j]?)) ∧ Hid (¬ F' hh))
  case first =>
    cases pp
    rotate_left
    · have hw := HPP.out
      have HY : Hid (s1 = x.1.must (knownB st)) := by show s1 = _; rw [HS1.out, pStat0, hw, HS0.out]; rfl
      clear hw
      go_wp2_with fail
      refine (known_gen st _).mono ?_
      rintro e w2 ⟨rfl, hm2⟩
      have D := hid ((A1.out.keep hm2).must (knownB st))
      have HM2 := hid hm2
      clear hm2 hcell hc1
      go_wp2_with fail
      refine D.out.mono ?_
      rintro e w3 ⟨rfl, F3, A3, g3⟩
      have g3' := hid ((GG.new g HM2.out).trans g3.out)
      clear D g3
      go_wp2_with fail
      go_meet
      case rel => exact ⟨F3, by rw [HY.out]; exact A3, G1.out.trans g3'.out, HBL.out.keep g3'.out.mods (fun e => e.elim HFH.out (fun e => HGH.out e.symm)), g3'.out.apart HFH.out HLT0.out⟩
    · have hw := HPP.out
      have HY : Hid (s1 = x.1) := by show s1 = _; rw [HS1.out, pStat0, hw]; rfl
      clear hw
      go_wp2_with fail
      go_meet
      case rel => exact ⟨F0, by rw [HY.out]; exact A1, G1, HBL, HFH⟩
  case rest =>
    clear hcell A1 G1 HBL HFH HLT0
    obtain ⟨F2, A2, G2, HBL, HFH⟩ := hcut
    obtain ⟨w2, rfl⟩ : ∃ z, z = wc := ⟨_, rfl⟩
    have D := hid (number_gen c F2 s1 hh (fun j => #[Value.int .i64 st][j]?) 0 0 4294967295 st w2 A2.out.co HBL.out HFH.out (by have := HZ1.out; omega) rfl)
    rw [← HR.out] at D
    go_wp2_with fail
    refine D.out.mono ?_
    intro e w3 q
    obtain ⟨rfl, F3, A3, m3, f3, B3⟩ := GP.local (x := (s1, x.2)) A2.out HGH.out q
    clear D q
    have G3 : Hid (GG w0 F0 g w3 F3) := ⟨G2.out.mods.step m3.out (fun k hk hf => by
      rcases hf with hf | hf
      · exact (G2.out.fresh k hf).elim .inl (fun h => by omega)
      · have := HHE.out; omega), fun k hk => by
      rcases f3.out k hk with h | h
      · exact G2.out.fresh k h
      · exact .inr (Nat.le_trans G2.out.mods.size h)⟩
    have hloc : w3.cell? ⟨hh, 0, none⟩ = some (.int .i64 r.1) := (B3.out.cell 0).trans (upd_at (fun j => #[Value.int .i64 st][j]?) 0 _)
    have hcell : w3.cell? ⟨g, 0, none⟩ = some (.int .i64 st) := (A3.out.bl.cell 0).trans X0.out
    have hfree := A3.out.bl.free 0
    have hp := A3.out.put (o := 0) (u := .int .i64 st) X0.out (.int .i64 r.1)
    have hy1 : ((r.2, x.2).1, upd (r.2, x.2).2 0 (.int .i64 r.1)) = y1 := HY1.out.symm
    rw [hy1] at hp
    have HP := hid hp
    clear hp hy1 m3 f3 B3 HFH HBL G2 A2
    go_upto_region 18 with fail
    generalize w3.setCell ⟨g, 0, none⟩ (.int .i64 r.1) = w4 at HP ⊢
    clear hloc hcell hfree
    have G4 := hid (G3.out.trans HP.out.2)
    have A4 : Hid (At w4 c F3 g y1) := HP.out.1
    clear HP G3
    have h10 : y1.2 0 = some (.int .i64 r.1) := by rw [HY1.out]; exact upd_at x.2 0 (.int .i64 r.1)
    have hcell : w4.cell? ⟨g, 0, none⟩ = some (.int .i64 r.1) := (A4.out.bl.cell 0).trans h10
    clear h10
    go_wp2_with fail
    refine (known_gen r.1 _).mono ?_
    rintro e w5 ⟨rfl, hm5⟩
    have D := hid ((A4.out.keep hm5).must (knownB r.1))
    rw [← HY2.out] at D
    have HM5 := hid hm5
    clear hm5 hcell
    go_wp2_with fail
    refine D.out.mono ?_
    rintro e w6 ⟨rfl, F6, A6, g6⟩
    have G6 := hid (G4.out.trans ((GG.new g HM5.out).trans g6.out))
    clear D g6 HM5 G4
    have D := front_gen k HK.out c F6 g y2 _ _ w6 A6.out K2.out
    rw [← HF.out] at D
    replace D := hid D
    go_wp2_with fail
    refine D.out.mono ?_
    rintro e w7 ⟨⟨rfl, F7, A7, g7⟩, k7⟩
    have K7 := hid k7
    have G7 := hid (G6.out.trans g7.out)
    clear D g7 k7 G6
    have hs7 := (K7.out.ty 0 _ rfl).iv
    have hcell : w7.cell? ⟨g, 0, none⟩ = some (.int .i64 (iv (y3.2 0))) := (A7.out.bl.cell 0).trans hs7
    have hc2 := A7.out.co.c2
    obtain ⟨s3, hs3⟩ : ∃ s, s = iv (y3.2 0) := ⟨_, rfl⟩
    obtain ⟨b3, hb3⟩ : ∃ b, b = y3.1.bad := ⟨_, rfl⟩
    rw [← hs3] at hcell
    rw [← hb3] at hc2
    have HS3 := hid hs3; have HB3 := hid hb3
    have S7 := hid (S0.out.go A7.out G7.out)
    clear hs7 hs3 hb3
    by_cases hz : s3 = 0
    · subst hz
      cases b3
      · have D := hid (good_anyE k HK.out c F7 g y3 xo xc ds eo ec es w7 S7.out K7.out HLN.out HR3.out HROOM.out HEL.out)
        have hend : rTellsE k x ds es = gAllE k y3 ds es := by rw [HEND.out, ← HS3.out, ← HB3.out]; rfl
        obtain ⟨q, hq⟩ : ∃ q, q = gAllE k y3 ds es := ⟨_, rfl⟩
        rw [← hq] at D hend
        have HE := hid hend
        clear hend hq
        go_wp2_with fail
        refine D.out.mono ?_
        rintro e w8 ⟨rfl, F8, yo, yc, zo, zc, p1, p2, p3, p4, p5, p6, p7, p8, p9, p10, p11⟩
        clear D hcell hc2
        go_wp2
        go_end0
        rw [HE.out]
        refine ⟨rfl, F8, yo, yc, zo, zc, p1, (G7.out.mods.mono fun _ _ h => h.imp id .inl).step p2.out fun j hj hf => ?_, fun j hj => ?_, p4, p5, fun j hj => ?_, p7, fun j hj => ?_, p9, p10, p11⟩
        · rcases hf with hf | hf
          · rcases G7.out.fresh j hf with e | e
            · exact .inl e
            · omega
          · exact .inr hf
        · rcases p3.out j hj with e | e
          · exact G7.out.fresh j e
          · exact .inr (Nat.le_trans G7.out.mods.size e)
        · obtain ⟨a1, a3, a4⟩ := p6.out j hj
          exact ⟨a1, a3, a4.imp id fun h => Nat.le_trans G7.out.mods.size h⟩
        · obtain ⟨a1, a4⟩ := p8.out j hj
          exact ⟨a1, a4.imp id fun h => Nat.le_trans G7.out.mods.size h⟩
      · have hend : rTellsE k x ds es = (y3, ds, es) := by rw [HEND.out, ← HS3.out, ← HB3.out]; rfl
        go_wp2
        go_end0
        rw [hend]
        exact ResPE.of S0.out ⟨rfl, F7, A7, G7⟩ K7.out (by decide)
    · have hz2 : (s3 == 0) = false := by simpa using hz
      have hend : rTellsE k x ds es = (y3, ds, es) := by rw [HEND.out, ← HS3.out, hz2]; rfl
      clear hz
      go_wp2
      go_end0
      rw [hend]
      exact ResPE.of S0.out ⟨rfl, F7, A7, G7⟩ K7.out (by decide)

/-- All of a procedure's results. -/
def rAllE (k : Nat) (x : X) (ds : List UInt8) (es : List EntryV) : X × List UInt8 × List EntryV :=
  if k = 0 ∨ k = 100 ∨ k = 102 ∨ k = 103 ∨ k = 104 ∨ k = 105 then (rOther k x, ds, es) else rTellsE k x ds es
theorem res_anyE (k : Nat) (hk : thereN k) (c : Nat) (F : Nat → Prop) (g : Nat) (x : X) (xo : Option Addr) (xc : Nat) (ds : List UInt8) (eo : Option Addr) (ec : Nat) (es : List EntryV) (w : World) (s : ResS w c F g x xo xc ds eo ec es) (hx : Ok (resLay (.slice xo ds.length xc) (.slice eo es.length ec)) 0 x)
    (hlen : ds.length ≤ 2000000) (hrd : x.1.isWr = false → es = []) (hroom : roomFrom 0 es ≤ 5000000) (hel : es.length ≤ 9223372036854775807) :
    Calls Try.prog 49 #[.pointer (some ⟨c, 0, none⟩), .int .i64 (k : Int), .pointer (some ⟨g, 0, none⟩)] w (ResPE w c F g xo ds.length eo (rAllE k x ds es)) := by
  have h := s.at_
  by_cases h0 : k = 0 ∨ k = 100 ∨ k = 102 ∨ k = 103 ∨ k = 104 ∨ k = 105
  · have hr : rAllE k x ds es = (rOther k x, ds, es) := if_pos h0
    rw [hr]
    have key : ∀ k', ∀ e w', GQ w c F g (.tuple #[]) (rOther k' x) e w' ∧ Ok (resLay (.slice xo ds.length xc) (.slice eo es.length ec)) 4000000 (rOther k' x) → ResPE w c F g xo ds.length eo (rOther k' x, ds, es) e w' := fun k' e w' ⟨q, q3⟩ => ResPE.of s q q3 (by decide)
    rcases h0 with rfl | rfl | rfl | rfl | rfl | rfl
    · exact (res_0 c F g x _ _ w h hx).mono (key 0)
    · exact (res_100 c F g x _ _ w h hx).mono (key 100)
    · exact (res_102 c F g x _ _ w h hx).mono (key 102)
    · exact (res_103 c F g x _ _ w h hx).mono (key 103)
    · exact (res_104 c F g x _ _ w h hx).mono (key 104)
    · exact (res_105 c F g x _ _ w h hx).mono (key 105)
  · have hr : rAllE k x ds es = rTellsE k x ds es := if_neg h0
    rw [hr]
    exact res_tellsE k (by unfold thereN at hk; unfold tells; omega) c F g x xo xc ds eo ec es w s hx hlen hrd hroom hel

end Go.Proofs.Ytanknjpcgceccaa
