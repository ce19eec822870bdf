/- nfsx's coder: good of any procedure, res, where no line of a directory is. (Printed by wip/tools/gen_gen20.py.) -/
import Derived.Test.YtanknjpcgceccaaGen19
namespace Go.Proofs.Ytanknjpcgceccaa
open Go.RowKit

/-- What stands behind a Status that is OK. -/
def gAll (k : Nat) (y : X) (ds : List UInt8) : X × List UInt8 :=
  if k = 6 then (let z := pGood 6 y; let r := z.1.row 8192 ds; ((r.2, z.2), r.1)) else if k = 18 then (pSpace y, ds) else (pGood k y, ds)
def ResP (w : World) (c : Nat) (F : Nat → Prop) (g : Nat) (xo : Option Addr) (n : Nat) (y : X) (ds : List UInt8) (e : Ending) (w' : World) : Prop :=
  e = .returned (.tuple #[]) ∧ ∃ F' xo' xc', Hid (CO w' c F' y.1) ∧ Hid (GG w F g w' F') ∧ Hid (Blk w' g (upd y.2 79 (.slice xo' ds.length xc'))) ∧ Hid (SlB w' xo' xc' ds) ∧
    Hid (∀ k, rb xo' ds.length k → k < w'.heap.size ∧ ¬ F' k ∧ k ≠ g ∧ (rb xo n k ∨ w.heap.size ≤ k)) ∧ Hid (∃ dv, Typed (resLay dv (.slice none 0 0)) y.2) ∧ Hid (¬ F' g) ∧ Hid (y.1.size ≤ 20000000)
theorem ResP.of {w w' : World} {c : Nat} {F : Nat → Prop} {g : Nat} {xo : Option Addr} {xc : Nat} {y : X} {ds : List UInt8} {e : Ending} {m : Nat} (q : GQ w c F g (.tuple #[]) y e w') (hy : Ok (resLay (.slice xo ds.length xc) (.slice none 0 0)) m y) (hm : m ≤ 20000000) (hs : SlB w xo xc ds) (hxb : ∀ k, rb xo ds.length k → k < w.heap.size ∧ ¬ F k ∧ k ≠ g) :
    ResP w c F g xo ds.length y ds e w' := by
  obtain ⟨he, F', q1, q2⟩ := q
  have hd : y.2 79 = some (.slice xo ds.length xc) := hy.ty 79 _ rfl
  exact ⟨he, F', xo, xc, q1.out.co, q2, q1.out.bl.congr (upd_self hd).symm, hs.keep q2.out.mods fun j hj hf => hf.elim (hxb j hj).2.1 (hxb j hj).2.2,
    fun j hj => ⟨Nat.lt_of_lt_of_le (hxb j hj).1 q2.out.mods.size, q2.out.apart (hxb j hj).2.1 (hxb j hj).1, (hxb j hj).2.2, .inl hj⟩, ⟨_, hy.ty⟩, q1.out.ap, Nat.le_trans hy.size hm⟩
/-- Where lines of a directory would be read there is none. -/
def NoLines (k : Nat) (y : X) : Prop := k = 16 ∨ k = 17 → (num1 8 .u64 82 y).1.bad = false → ((num1 8 .u64 82 y).1.truth false).1 = false

set_option maxRecDepth 100000 in
set_option maxHeartbeats 2000000 in
theorem good_18 (c : Nat) (F0 : Nat → Prop) (g : Nat) (y0 : X) (dv ev : Value) (w0 : World) (h : At w0 c F0 g y0) (hk : Ok (resLay dv ev) 4000000 y0) :
    Calls Try.prog 73 #[.pointer (some ⟨c, 0, none⟩), .int .i64 18, .pointer (some ⟨g, 0, none⟩)] w0 (fun e w' => GQ w0 c F0 g (.tuple #[]) (pSpace y0) e w' ∧ Ok (resLay dv ev) 6000000 (pSpace y0)) := by
  have D := hid (space_gen c F0 g y0 dv ev w0 h hk)
  clear h hk
  go_enter Try.func73, Try.ntmps73
  go_wp2_with fail
  refine D.out.mono ?_
  rintro e w1 ⟨⟨rfl, F1, A1, g1⟩, k1⟩
  have K1 := hid k1
  clear D k1
  go_wp2
  go_end0
  exact ⟨⟨rfl, F1, A1, g1⟩, K1.out⟩

theorem good_any (k : Nat) (hk : tells k) (c : Nat) (F : Nat → Prop) (g : Nat) (y : X) (xo : Option Addr) (xc : Nat) (ds : List UInt8) (w : World) (h : At w c F g y) (hy : Ok (resLay (.slice xo ds.length xc) (.slice none 0 0)) 4000000 y) (hs : SlB w xo xc ds)
    (hxb : ∀ k, rb xo ds.length k → k < w.heap.size ∧ ¬ F k ∧ k ≠ g) (hlen : ds.length ≤ 2000000) (hnl : NoLines k y) :
    Calls Try.prog 73 #[.pointer (some ⟨c, 0, none⟩), .int .i64 (k : Int), .pointer (some ⟨g, 0, none⟩)] w (ResP w c F g xo ds.length (gAll k y ds).1 (gAll k y ds).2) := by
  have key : ∀ k', k' ≠ 6 → k' ≠ 18 → ∀ e w', GQ w c F g (.tuple #[]) (pGood k' y) e w' ∧ Ok (resLay (.slice xo ds.length xc) (.slice none 0 0)) 8000000 (pGood k' y) → ResP w c F g xo ds.length (gAll k' y ds).1 (gAll k' y ds).2 e w' := by
    intro k' h6 h18 e w' ⟨q, q3⟩
    have hp : gAll k' y ds = (pGood k' y, ds) := by rw [gAll, if_neg h6, if_neg h18]
    rw [hp]
    exact ResP.of q q3 (by decide) hs hxb
  have hc : k = 1 ∨ k = 2 ∨ k = 3 ∨ k = 4 ∨ k = 5 ∨ k = 6 ∨ k = 7 ∨ k = 8 ∨ k = 9 ∨ k = 10 ∨ k = 11 ∨ k = 12 ∨ k = 13 ∨ k = 14 ∨ k = 15 ∨ k = 16 ∨ k = 17 ∨ k = 18 ∨ k = 19 ∨ k = 20 ∨ k = 21 ∨ k = 101 := by unfold tells at hk; omega
  rcases hc with rfl | rfl | rfl | rfl | rfl | rfl | rfl | rfl | rfl | rfl | rfl | rfl | rfl | rfl | rfl | rfl | rfl | rfl | rfl | rfl | rfl | rfl
  · exact (good_1 c F g y _ _ w h hy).mono (key 1 (by decide) (by decide))
  · exact (good_2 c F g y _ _ w h hy).mono (key 2 (by decide) (by decide))
  · exact (good_3 c F g y _ _ w h hy).mono (key 3 (by decide) (by decide))
  · exact (good_4 c F g y _ _ w h hy).mono (key 4 (by decide) (by decide))
  · exact (good_5 c F g y _ _ w h hy).mono (key 5 (by decide) (by decide))
  · refine (good_6 c F g y xo xc ds _ _ rfl w h hy hs hxb hlen).mono ?_
    rintro e w' ⟨⟨F', yo, yc, he, q1, q2, q3, q4, q5⟩, q6⟩
    exact ⟨he, F', yo, yc, q1, q2, q3, q4, q5, ⟨_, q6.ty⟩, q2.apart h.ap h.bl.lt, by
      have h1 := St.size_row (pGood 6 y).1 8192 ds
      have h2 := q6.size
      show ((pGood 6 y).1.row 8192 ds).2.size ≤ 20000000
      omega⟩
  · exact (good_7 c F g y _ _ w h hy).mono (key 7 (by decide) (by decide))
  · exact (good_8 c F g y _ _ w h hy).mono (key 8 (by decide) (by decide))
  · exact (good_9 c F g y _ _ w h hy).mono (key 9 (by decide) (by decide))
  · exact (good_10 c F g y _ _ w h hy).mono (key 10 (by decide) (by decide))
  · exact (good_11 c F g y _ _ w h hy).mono (key 11 (by decide) (by decide))
  · exact (good_12 c F g y _ _ w h hy).mono (key 12 (by decide) (by decide))
  · exact (good_13 c F g y _ _ w h hy).mono (key 13 (by decide) (by decide))
  · exact (good_14 c F g y _ _ w h hy).mono (key 14 (by decide) (by decide))
  · exact (good_15 c F g y _ _ w h hy).mono (key 15 (by decide) (by decide))
  · exact (good_16 c F g y _ _ rfl w h hy (hnl (by decide))).mono (key 16 (by decide) (by decide))
  · exact (good_17 c F g y _ _ rfl w h hy (hnl (by decide))).mono (key 17 (by decide) (by decide))
  · refine (good_18 c F g y _ _ w h hy).mono ?_
    rintro e w' ⟨q, q3⟩
    exact ResP.of (y := pSpace y) q q3 (by decide) hs hxb
  · exact (good_19 c F g y _ _ w h hy).mono (key 19 (by decide) (by decide))
  · exact (good_20 c F g y _ _ w h hy).mono (key 20 (by decide) (by decide))
  · exact (good_21 c F g y _ _ w h hy).mono (key 21 (by decide) (by decide))
  · exact (good_101 c F g y _ _ w h hy).mono (key 101 (by decide) (by decide))

/-- The Status. -/
def pStat0 (x : X) : St := if x.1.isWr then x.1.must (knownB (iv (x.2 0))) else x.1
def pStat (x : X) : X := let r := (pStat0 x).number 0 4294967295 (iv (x.2 0)); (r.2.must (knownB r.1), upd x.2 0 (.int .i64 r.1))
def rFront (k : Nat) (x : X) : X := pFront k (iv ((pStat x).2 0) == 0) (pStat x)
def rTells (k : Nat) (x : X) (ds : List UInt8) : X × List UInt8 := if iv ((rFront k x).2 0) == 0 && !(rFront k x).1.bad then gAll k (rFront k x) ds else (rFront k x, ds)

set_option maxRecDepth 100000 in
set_option maxHeartbeats 4000000 in
theorem res_tells (k : Nat) (hk : tells k) (c : Nat) (F0 : Nat → Prop) (g : Nat) (x : X) (xo : Option Addr) (xc : Nat) (ds : List UInt8) (w0 : World) (h : At w0 c F0 g x) (hx : Ok (resLay (.slice xo ds.length xc) (.slice none 0 0)) 0 x) (hs : SlB w0 xo xc ds)
    (hxb : ∀ k, rb xo ds.length k → k < w0.heap.size ∧ ¬ F0 k ∧ k ≠ g) (hlen : ds.length ≤ 2000000) (hnl : NoLines k (rFront k x)) :
    Calls Try.prog 49 #[.pointer (some ⟨c, 0, none⟩), .int .i64 (k : Int), .pointer (some ⟨g, 0, none⟩)] w0 (ResP w0 c F0 g xo ds.length (rTells k x ds).1 (rTells k x ds).2) := by
  have HK := hid hk; have HS := hid hs; have HXB := hid hxb; have HLN := hid hlen
  have HNL := hid hnl
  have q102 : ((k : Int) == 102) = false := by unfold tells at hk; simp; omega
  have q0 : ((k : Int) == 0) = false := by unfold tells at hk; simp; omega
  have q100 : ((k : Int) == 100) = false := by unfold tells at hk; simp; omega
  have q103 : ((k : Int) == 103) = false := by unfold tells at hk; simp; omega
  have q104 : ((k : Int) == 104) = false := by unfold tells at hk; simp; omega
  have q105 : ((k : Int) == 105) = false := by unfold tells at hk; simp; omega
  have hst := (hx.ty 0 _ rfl).iv
  have hcell := (h.bl.cell 0).trans hst
  obtain ⟨st, hs0⟩ : ∃ s, s = iv (x.2 0) := ⟨_, rfl⟩
  rw [← hs0] at hcell
  obtain ⟨s1, hs1⟩ : ∃ s, s = pStat0 x := ⟨_, rfl⟩
  have hz1 : s1.size ≤ 0 := by
    rw [hs1, pStat0]; split
    · rw [St.size_must]; exact hx.size
    · exact hx.size
  obtain ⟨r, hr⟩ : ∃ r, r = s1.number 0 4294967295 st := ⟨_, rfl⟩
  have hzr : r.2.size ≤ 4 := by rw [hr]; exact Nat.le_trans (St.size_number _ _ _ _) (by omega)
  obtain ⟨y1, hy1⟩ : ∃ y : X, y = (r.2, upd x.2 0 (.int .i64 r.1)) := ⟨_, rfl⟩
  have K1 : Hid (Ok (resLay (.slice xo ds.length xc) (.slice none 0 0)) 1000 y1) := by rw [hy1]; exact ⟨hx.ty.upd' (o := 0) rfl ⟨r.1, rfl⟩, by simp only; omega⟩
  obtain ⟨y2, hy2⟩ : ∃ y : X, y = pMust (knownB r.1) y1 := ⟨_, rfl⟩
  have K2 : Hid (Ok (resLay (.slice xo ds.length xc) (.slice none 0 0)) 1000 y2) := by rw [hy2]; exact K1.out.must _
  have h20 : y2.2 0 = some (.int .i64 r.1) := by rw [hy2, hy1]; exact upd_at x.2 0 (.int .i64 r.1)
  have hstat : pStat x = y2 := by rw [hy2, hy1, hr, hs1, hs0]; rfl
  obtain ⟨y3, hy3⟩ : ∃ y : X, y = rFront k x := ⟨_, rfl⟩
  have hfront : y3 = pFront k (iv (y2.2 0) == 0) y2 := by rw [hy3, rFront, hstat]
  rw [← hy3] at HNL
  have HEND : Hid (rTells k x ds = if iv (y3.2 0) == 0 && !y3.1.bad then gAll k y3 ds else (y3, ds)) := by show _ = _; rw [rTells, ← hy3]
  have X0 : Hid (x.2 0 = some (.int .i64 st)) := by show x.2 0 = _; rw [hst, hs0]
  have A0 := hid h; have HS0 := hid hs0; have HS1 := hid hs1; have HZ1 := hid hz1; have HR := hid hr; have HY1 := hid hy1; have HY2 := hid hy2; have H20 := hid h20; have HF := hid hfront
  clear hk hs hxb hlen hnl hst hs0 hs1 hz1 hr hzr hy1 hy2 h20 hstat hy3 hfront hx h
  go_enter Try.func49, Try.ntmps49
  go_upto_region 14 with fail
  have hma : Mods (fun _ => False) w0 (w0.alloc (.cells #[.int .i64 st] 3)) := Mods.alloc _ _ _
  have hbl : Blk (w0.alloc (.cells #[.int .i64 st] 3)) w0.heap.size (fun j => #[Value.int .i64 st][j]?) := Blk.new w0 _ _
  have hlt0 : w0.heap.size < (w0.alloc (.cells #[.int .i64 st] 3)).heap.size := by simp
  generalize w0.alloc (.cells #[.int .i64 st] 3) = w1 at hma hbl hlt0 ⊢
  obtain ⟨hh, hhe⟩ : ∃ z, z = w0.heap.size := ⟨_, rfl⟩
  rw [← hhe] at hbl hlt0 ⊢
  have A1 : Hid (At w1 c F0 g x) := A0.out.keep hma
  have G1 : Hid (GG w0 F0 g w1 F0) := GG.new g hma
  have HGH : Hid (g ≠ hh) := by have := A0.out.bl.lt; show g ≠ hh; omega
  have HFH : Hid (¬ F0 hh) := fun hf => by have := A0.out.co.lt _ hf; omega
  have HHE : Hid (hh = w0.heap.size) := hhe
  have HBL := hid hbl; have HLT0 := hid hlt0
  clear hma hbl hlt0 hhe hcell
  have hcell : w1.cell? ⟨g, 0, none⟩ = some (.int .i64 st) := (A1.out.bl.cell 0).trans X0.out
  obtain ⟨pp, hc1, hpp⟩ : ∃ pp : Option Addr, w1.cell? ⟨c, 1, none⟩ = some (.pointer pp) ∧ x.1.isWr = pp.isSome := by
    rcases A1.out.co.c1 with ⟨hw, p, h⟩ | ⟨hw, h⟩
    · exact ⟨some p, h, hw⟩
    · exact ⟨none, h, hw⟩
  have HPP := hid hpp
  clear hpp
  go_upto_if 41 with fail
  go_cut [] from 8 (fun wx => ∃ F', Hid (At wx c F' g (s1, x.2)) ∧ Hid (GG w0 F0 g wx F') ∧ Hid (Blk wx hh (fun j => #[Value.int .i64 st][j]?)) ∧ Hid (¬ F' hh))
  case first =>
    cases pp
    rotate_left
    · have hw := HPP.out
      have HY : Hid (s1 = x.1.must (knownB st)) := by show s1 = _; rw [HS1.out, pStat0, hw, HS0.out]; rfl
      clear hw
      go_wp2_with fail
      refine (known_gen st _).mono ?_
      rintro e w2 ⟨rfl, hm2⟩
      have D := hid ((A1.out.keep hm2).must (knownB st))
      have HM2 := hid hm2
      clear hm2 hcell hc1
      go_wp2_with fail
      refine D.out.mono ?_
      rintro e w3 ⟨rfl, F3, A3, g3⟩
      have g3' := hid ((GG.new g HM2.out).trans g3.out)
      clear D g3
      go_wp2_with fail
      go_meet
      case rel => exact ⟨F3, by rw [HY.out]; exact A3, G1.out.trans g3'.out, HBL.out.keep g3'.out.mods (fun e => e.elim HFH.out (fun e => HGH.out e.symm)), g3'.out.apart HFH.out HLT0.out⟩
    · have hw := HPP.out
      have HY : Hid (s1 = x.1) := by show s1 = _; rw [HS1.out, pStat0, hw]; rfl
      clear hw
      go_wp2_with fail
      go_meet
      case rel => exact ⟨F0, by rw [HY.out]; exact A1, G1, HBL, HFH⟩
  case rest =>
    clear hcell A1 G1 HBL HFH HLT0
    obtain ⟨F2, A2, G2, HBL, HFH⟩ := hcut
    obtain ⟨w2, rfl⟩ : ∃ z, z = wc := ⟨_, rfl⟩
    have D := hid (number_gen c F2 s1 hh (fun j => #[Value.int .i64 st][j]?) 0 0 4294967295 st w2 A2.out.co HBL.out HFH.out (by have := HZ1.out; omega) rfl)
    rw [← HR.out] at D
    go_wp2_with fail
    refine D.out.mono ?_
    intro e w3 q
    obtain ⟨rfl, F3, A3, m3, f3, B3⟩ := GP.local (x := (s1, x.2)) A2.out HGH.out q
    clear D q
    have G3 : Hid (GG w0 F0 g w3 F3) := ⟨G2.out.mods.step m3.out (fun k hk hf => by
      rcases hf with hf | hf
      · exact (G2.out.fresh k hf).elim .inl (fun h => by omega)
      · have := HHE.out; omega), fun k hk => by
      rcases f3.out k hk with h | h
      · exact G2.out.fresh k h
      · exact .inr (Nat.le_trans G2.out.mods.size h)⟩
    have hloc : w3.cell? ⟨hh, 0, none⟩ = some (.int .i64 r.1) := (B3.out.cell 0).trans (upd_at (fun j => #[Value.int .i64 st][j]?) 0 _)
    have hcell : w3.cell? ⟨g, 0, none⟩ = some (.int .i64 st) := (A3.out.bl.cell 0).trans X0.out
    have hfree := A3.out.bl.free 0
    have hp := A3.out.put (o := 0) (u := .int .i64 st) X0.out (.int .i64 r.1)
    have hy1 : ((r.2, x.2).1, upd (r.2, x.2).2 0 (.int .i64 r.1)) = y1 := HY1.out.symm
    rw [hy1] at hp
    have HP := hid hp
    clear hp hy1 m3 f3 B3 HFH HBL G2 A2
    go_upto_region 18 with fail
    generalize w3.setCell ⟨g, 0, none⟩ (.int .i64 r.1) = w4 at HP ⊢
    clear hloc hcell hfree
    have G4 := hid (G3.out.trans HP.out.2)
    have A4 : Hid (At w4 c F3 g y1) := HP.out.1
    clear HP G3
    have h10 : y1.2 0 = some (.int .i64 r.1) := by rw [HY1.out]; exact upd_at x.2 0 (.int .i64 r.1)
    have hcell : w4.cell? ⟨g, 0, none⟩ = some (.int .i64 r.1) := (A4.out.bl.cell 0).trans h10
    clear h10
    go_wp2_with fail
    refine (known_gen r.1 _).mono ?_
    rintro e w5 ⟨rfl, hm5⟩
    have D := hid ((A4.out.keep hm5).must (knownB r.1))
    rw [← HY2.out] at D
    have HM5 := hid hm5
    clear hm5 hcell
    go_wp2_with fail
    refine D.out.mono ?_
    rintro e w6 ⟨rfl, F6, A6, g6⟩
    have G6 := hid (G4.out.trans ((GG.new g HM5.out).trans g6.out))
    clear D g6 HM5 G4
    have D := front_gen k HK.out c F6 g y2 _ _ w6 A6.out K2.out
    rw [← HF.out] at D
    replace D := hid D
    go_wp2_with fail
    refine D.out.mono ?_
    rintro e w7 ⟨⟨rfl, F7, A7, g7⟩, k7⟩
    have K7 := hid k7
    have G7 := hid (G6.out.trans g7.out)
    clear D g7 k7 G6
    have hs7 := (K7.out.ty 0 _ rfl).iv
    have hcell : w7.cell? ⟨g, 0, none⟩ = some (.int .i64 (iv (y3.2 0))) := (A7.out.bl.cell 0).trans hs7
    have hc2 := A7.out.co.c2
    obtain ⟨s3, hs3⟩ : ∃ s, s = iv (y3.2 0) := ⟨_, rfl⟩
    obtain ⟨b3, hb3⟩ : ∃ b, b = y3.1.bad := ⟨_, rfl⟩
    rw [← hs3] at hcell
    rw [← hb3] at hc2
    have HS3 := hid hs3; have HB3 := hid hb3
    have SL7 : Hid (SlB w7 xo xc ds) := HS.out.keep G7.out.mods fun j hj hf => hf.elim (HXB.out j hj).2.1 (HXB.out j hj).2.2
    have XB7 : Hid (∀ k, rb xo ds.length k → k < w7.heap.size ∧ ¬ F7 k ∧ k ≠ g) := fun j hj => ⟨Nat.lt_of_lt_of_le (HXB.out j hj).1 G7.out.mods.size, G7.out.apart (HXB.out j hj).2.1 (HXB.out j hj).1, (HXB.out j hj).2.2⟩
    clear hs7 hs3 hb3
    by_cases hz : s3 = 0
    · subst hz
      cases b3
      · have D := hid (good_any k HK.out c F7 g y3 xo xc ds w7 A7.out K7.out SL7.out XB7.out HLN.out HNL.out)
        have hend : rTells k x ds = gAll k y3 ds := by rw [HEND.out, ← HS3.out, ← HB3.out]; rfl
        obtain ⟨q, hq⟩ : ∃ q, q = gAll k y3 ds := ⟨_, rfl⟩
        rw [← hq] at D hend
        have HE := hid hend
        clear hend hq
        go_wp2_with fail
        refine D.out.mono ?_
        rintro e w8 ⟨rfl, F8, yo, yc, p1, p2, p3, p4, p5, p6, p7, p8⟩
        clear D hcell hc2
        go_wp2
        go_end0
        rw [HE.out]
        exact ⟨rfl, F8, yo, yc, p1, G7.out.trans p2.out, p3, p4, fun j hj => by
          obtain ⟨a1, a2, a3, a4⟩ := p5.out j hj
          exact ⟨a1, a2, a3, a4.imp id fun h => Nat.le_trans G7.out.mods.size h⟩, p6, p7, p8⟩
      · have hend : rTells k x ds = (y3, ds) := by rw [HEND.out, ← HS3.out, ← HB3.out]; rfl
        go_wp2
        go_end0
        rw [hend]
        exact ResP.of ⟨rfl, F7, A7, G7⟩ K7.out (by decide) HS.out HXB.out
    · have hz2 : (s3 == 0) = false := by simpa using hz
      have hend : rTells k x ds = (y3, ds) := by rw [HEND.out, ← HS3.out, hz2]; rfl
      clear hz
      go_wp2
      go_end0
      rw [hend]
      exact ResP.of ⟨rfl, F7, A7, G7⟩ K7.out (by decide) HS.out HXB.out

/-- The results of the procedures that tell no Status. -/
def rOther : Nat → X → X
  | 102, x => pFixed [0] x
  | 105, x => let y := pFixed [1] x; let r := y.1.row 1024 [47]; pFixed [0, 0] (r.2.must (r.1 == [47]), y.2)
  | _, x => x

set_option maxRecDepth 100000 in
set_option maxHeartbeats 2000000 in
theorem res_0 (c : Nat) (F0 : Nat → Prop) (g : Nat) (y0 : X) (dv ev : Value) (w0 : World) (h : At w0 c F0 g y0) (hk : Ok (resLay dv ev) 0 y0) :
    Calls Try.prog 49 #[.pointer (some ⟨c, 0, none⟩), .int .i64 0, .pointer (some ⟨g, 0, none⟩)] w0 (fun e w' => GQ w0 c F0 g (.tuple #[]) (rOther 0 y0) e w' ∧ Ok (resLay dv ev) 4000000 (rOther 0 y0)) := by
  have K0 : Hid (Ok (resLay dv ev) 0 y0) := hk
  have A0 : Hid (At w0 c F0 g y0) := h
  have G0 : Hid (GG w0 F0 g w0 F0) := GG.refl _ _ _
  clear h hk
  go_enter Try.func49, Try.ntmps49
  go_wp2
  (try simp only [Exit.inBlock, Exit.then])
  refine bodyPost_ret (results_none rfl _ _ _) rfl ?_
  exact ⟨⟨rfl, F0, A0, G0⟩, K0.out.mono (by decide)⟩

set_option maxRecDepth 100000 in
set_option maxHeartbeats 2000000 in
theorem res_100 (c : Nat) (F0 : Nat → Prop) (g : Nat) (y0 : X) (dv ev : Value) (w0 : World) (h : At w0 c F0 g y0) (hk : Ok (resLay dv ev) 0 y0) :
    Calls Try.prog 49 #[.pointer (some ⟨c, 0, none⟩), .int .i64 100, .pointer (some ⟨g, 0, none⟩)] w0 (fun e w' => GQ w0 c F0 g (.tuple #[]) (rOther 100 y0) e w' ∧ Ok (resLay dv ev) 4000000 (rOther 100 y0)) := by
  have K0 : Hid (Ok (resLay dv ev) 0 y0) := hk
  have A0 : Hid (At w0 c F0 g y0) := h
  have G0 : Hid (GG w0 F0 g w0 F0) := GG.refl _ _ _
  clear h hk
  go_enter Try.func49, Try.ntmps49
  go_wp2
  (try simp only [Exit.inBlock, Exit.then])
  refine bodyPost_ret (results_none rfl _ _ _) rfl ?_
  exact ⟨⟨rfl, F0, A0, G0⟩, K0.out.mono (by decide)⟩

set_option maxRecDepth 100000 in
set_option maxHeartbeats 2000000 in
theorem res_102 (c : Nat) (F0 : Nat → Prop) (g : Nat) (y0 : X) (dv ev : Value) (w0 : World) (h : At w0 c F0 g y0) (hk : Ok (resLay dv ev) 0 y0) :
    Calls Try.prog 49 #[.pointer (some ⟨c, 0, none⟩), .int .i64 102, .pointer (some ⟨g, 0, none⟩)] w0 (fun e w' => GQ w0 c F0 g (.tuple #[]) (rOther 102 y0) e w' ∧ Ok (resLay dv ev) 4000000 (rOther 102 y0)) := by
  have K0 : Hid (Ok (resLay dv ev) 0 y0) := hk
  have A0 : Hid (At w0 c F0 g y0) := h
  have G0 : Hid (GG w0 F0 g w0 F0) := GG.refl _ _ _
  clear h hk
  go_enter Try.func49, Try.ntmps49
  have D := hid (A0.out.fixed K0.out [0] 23 (by decide) (by decide) (by decide) (by decide))
  go_wp2_with fail
  refine D.out.mono ?_
  rintro e w1 ⟨rfl, F1, A1, g1⟩
  clear D
  go_wp2
  (try simp only [Exit.inBlock, Exit.then])
  refine bodyPost_ret (results_none rfl _ _ _) rfl ?_
  exact ⟨⟨rfl, F1, A1, g1⟩, (K0.out.fixed [0]).mono (by decide)⟩

set_option maxRecDepth 100000 in
set_option maxHeartbeats 2000000 in
theorem res_103 (c : Nat) (F0 : Nat → Prop) (g : Nat) (y0 : X) (dv ev : Value) (w0 : World) (h : At w0 c F0 g y0) (hk : Ok (resLay dv ev) 0 y0) :
    Calls Try.prog 49 #[.pointer (some ⟨c, 0, none⟩), .int .i64 103, .pointer (some ⟨g, 0, none⟩)] w0 (fun e w' => GQ w0 c F0 g (.tuple #[]) (rOther 103 y0) e w' ∧ Ok (resLay dv ev) 4000000 (rOther 103 y0)) := by
  have K0 : Hid (Ok (resLay dv ev) 0 y0) := hk
  have A0 : Hid (At w0 c F0 g y0) := h
  have G0 : Hid (GG w0 F0 g w0 F0) := GG.refl _ _ _
  clear h hk
  go_enter Try.func49, Try.ntmps49
  go_wp2
  (try simp only [Exit.inBlock, Exit.then])
  refine bodyPost_ret (results_none rfl _ _ _) rfl ?_
  exact ⟨⟨rfl, F0, A0, G0⟩, K0.out.mono (by decide)⟩

set_option maxRecDepth 100000 in
set_option maxHeartbeats 2000000 in
theorem res_104 (c : Nat) (F0 : Nat → Prop) (g : Nat) (y0 : X) (dv ev : Value) (w0 : World) (h : At w0 c F0 g y0) (hk : Ok (resLay dv ev) 0 y0) :
    Calls Try.prog 49 #[.pointer (some ⟨c, 0, none⟩), .int .i64 104, .pointer (some ⟨g, 0, none⟩)] w0 (fun e w' => GQ w0 c F0 g (.tuple #[]) (rOther 104 y0) e w' ∧ Ok (resLay dv ev) 4000000 (rOther 104 y0)) := by
  have K0 : Hid (Ok (resLay dv ev) 0 y0) := hk
  have A0 : Hid (At w0 c F0 g y0) := h
  have G0 : Hid (GG w0 F0 g w0 F0) := GG.refl _ _ _
  clear h hk
  go_enter Try.func49, Try.ntmps49
  go_wp2
  (try simp only [Exit.inBlock, Exit.then])
  refine bodyPost_ret (results_none rfl _ _ _) rfl ?_
  exact ⟨⟨rfl, F0, A0, G0⟩, K0.out.mono (by decide)⟩


set_option maxRecDepth 100000 in
set_option maxHeartbeats 4000000 in
theorem res_105 (c : Nat) (F0 : Nat → Prop) (g : Nat) (y0 : X) (dv ev : Value) (w0 : World) (h : At w0 c F0 g y0) (hk : Ok (resLay dv ev) 0 y0) :
    Calls Try.prog 49 #[.pointer (some ⟨c, 0, none⟩), .int .i64 105, .pointer (some ⟨g, 0, none⟩)] w0 (fun e w' => GQ w0 c F0 g (.tuple #[]) (rOther 105 y0) e w' ∧ Ok (resLay dv ev) 4000000 (rOther 105 y0)) := by
  have K0 : Hid (Ok (resLay dv ev) 0 y0) := hk
  have A0 : Hid (At w0 c F0 g y0) := h
  clear h hk
  obtain ⟨y1, e1⟩ : ∃ z, z = pFixed [1] y0 := ⟨_, rfl⟩
  have K1 : Hid (Ok (resLay dv ev) 4 y1) := by rw [e1]; exact (K0.out.fixed [1]).mono (by decide)
  obtain ⟨r, hr⟩ : ∃ r, r = y1.1.row 1024 [47] := ⟨_, rfl⟩
  have K2 : Hid (Ok (resLay dv ev) 100 (r.2, y1.2)) := by rw [hr]; exact ⟨K1.out.ty, Nat.le_trans (St.size_row _ _ _) (by have := K1.out.size; simp; omega)⟩
  obtain ⟨ok, hok⟩ : ∃ b, b = (r.1 == [47]) := ⟨_, rfl⟩
  obtain ⟨y3, e3⟩ : ∃ z, z = pMust ok (r.2, y1.2) := ⟨_, rfl⟩
  have K3 : Hid (Ok (resLay dv ev) 100 y3) := by rw [e3]; exact K2.out.must ok
  obtain ⟨y4, e4⟩ : ∃ z, z = pFixed [0, 0] y3 := ⟨_, rfl⟩
  have K4 : Hid (Ok (resLay dv ev) 108 y4) := by rw [e4]; exact (K3.out.fixed [0, 0]).mono (by decide)
  have HEND : Hid (rOther 105 y0 = y4) := by show _ = _; rw [e4, e3, hok, hr, e1]; rfl
  have D := hid (A0.out.fixed K0.out [1] 23 (by decide) (by decide) (by decide) (by decide))
  rw [← e1] at D
  have HR := hid hr; have HOK := hid hok; have E3 := hid e3; have E4 := hid e4
  clear e1 hr hok e3 e4
  go_enter Try.func49, Try.ntmps49
  go_wp2_with fail
  refine D.out.mono ?_
  rintro e w1 ⟨rfl, F1, A1, g1⟩
  clear D
  go_upto_region 10 with fail
  have hm2 : Mods (fun _ => False) w1 (w1.alloc (.cells #[.string ⟨#[47]⟩] 9)) := Mods.alloc _ _ _
  have hbl : Blk (w1.alloc (.cells #[.string ⟨#[47]⟩] 9)) w1.heap.size (fun j => #[Value.string ⟨#[47]⟩][j]?) := Blk.new w1 _ _
  generalize w1.alloc (.cells #[.string ⟨#[47]⟩] 9) = w2 at hm2 hbl ⊢
  obtain ⟨hh, hhe⟩ : ∃ z, z = w1.heap.size := ⟨_, rfl⟩
  rw [← hhe] at hbl ⊢
  have A2 : Hid (At w2 c F1 g y1) := A1.out.keep hm2
  have G2 : Hid (GG w0 F0 g w2 F1) := g1.out.trans (GG.new g hm2)
  have hg : g ≠ hh := by have := A1.out.bl.lt; omega
  have hF : ¬ F1 hh := fun hf => by have := A1.out.co.lt _ hf; omega
  have d := text_gen c F1 y1.1 hh (fun j => #[Value.string ⟨#[47]⟩][j]?) 0 1024 [47] w2 A2.out.co hbl hF (by have := K1.out.size; simp; omega) rfl
  rw [← HR.out] at d
  have D := hid d
  have HGH := hid hg
  have HNEW : Hid (w0.heap.size ≤ hh) := by have := g1.out.mods.size; show _ ≤ _; omega
  clear d hm2 hbl hF hg hhe A1 g1
  go_wp2_with fail
  refine D.out.mono ?_
  intro e w3 q
  obtain ⟨rfl, F3, A3, m3, f3, B3⟩ := GP.local (x := y1) A2.out HGH.out q
  clear D q
  have G3 : Hid (GG w0 F0 g w3 F3) := ⟨G2.out.mods.step m3.out (fun k hk hf => by
    rcases hf with hf | hf
    · exact (G2.out.fresh k hf).elim .inl (fun h => by omega)
    · have := HNEW.out; omega), fun k hk => by
    rcases f3.out k hk with h | h
    · exact G2.out.fresh k h
    · exact .inr (Nat.le_trans G2.out.mods.size h)⟩
  obtain ⟨sr, hsr⟩ : ∃ s, s = str r.1 := ⟨_, rfl⟩
  have hloc : w3.cell? ⟨hh, 0, none⟩ = some (.string sr) := by rw [hsr]; exact (B3.out.cell 0).trans (upd_at (fun j => #[Value.string ⟨#[47]⟩][j]?) 0 _)
  have hD := A3.out.must ok
  rw [← E3.out] at hD
  have HSR := hid hsr
  have D := hid hD
  clear m3 f3 B3 A2 G2 hsr hD
  have hok : (sr.toList == [47]) = ok := by
    rw [HOK.out, HSR.out]
    simp [ByteArray.toList_eq, str]
  go_wp2_with fail
  refine D.out.mono ?_
  rintro e w4 ⟨rfl, F4, A4, g4⟩
  have G4 := hid (G3.out.trans g4.out)
  clear D g4 hloc hok
  have D := hid (A4.out.fixed K3.out [0, 0] 23 (by decide) (by decide) (by decide) (by decide))
  rw [← E4.out] at D
  go_wp2_with fail
  refine D.out.mono ?_
  rintro e w5 ⟨rfl, F5, A5, g5⟩
  have G5 := hid (G4.out.trans g5.out)
  clear D g5
  go_wp2
  (try simp only [Exit.inBlock, Exit.then])
  refine bodyPost_ret (results_none rfl _ _ _) rfl ?_
  rw [HEND.out]
  exact ⟨⟨rfl, F5, A5, G5⟩, K4.out.mono (by decide)⟩

/-- All of a procedure's results. -/
def rAll (k : Nat) (x : X) (ds : List UInt8) : X × List UInt8 :=
  if k = 0 ∨ k = 100 ∨ k = 102 ∨ k = 103 ∨ k = 104 ∨ k = 105 then (rOther k x, ds) else rTells k x ds
theorem res_any (k : Nat) (hk : thereN k) (c : Nat) (F : Nat → Prop) (g : Nat) (x : X) (xo : Option Addr) (xc : Nat) (ds : List UInt8) (w : World) (h : At w c F g x) (hx : Ok (resLay (.slice xo ds.length xc) (.slice none 0 0)) 0 x) (hs : SlB w xo xc ds)
    (hxb : ∀ k, rb xo ds.length k → k < w.heap.size ∧ ¬ F k ∧ k ≠ g) (hlen : ds.length ≤ 2000000) (hnl : NoLines k (rFront k x)) :
    Calls Try.prog 49 #[.pointer (some ⟨c, 0, none⟩), .int .i64 (k : Int), .pointer (some ⟨g, 0, none⟩)] w (ResP w c F g xo ds.length (rAll k x ds).1 (rAll k x ds).2) := by
  by_cases h0 : k = 0 ∨ k = 100 ∨ k = 102 ∨ k = 103 ∨ k = 104 ∨ k = 105
  · have hr : rAll k x ds = (rOther k x, ds) := if_pos h0
    rw [hr]
    have key : ∀ k', ∀ e w', GQ w c F g (.tuple #[]) (rOther k' x) e w' ∧ Ok (resLay (.slice xo ds.length xc) (.slice none 0 0)) 4000000 (rOther k' x) → ResP w c F g xo ds.length (rOther k' x) ds e w' := fun k' e w' ⟨q, q3⟩ => ResP.of q q3 (by decide) hs hxb
    rcases h0 with rfl | rfl | rfl | rfl | rfl | rfl
    · exact (res_0 c F g x _ _ w h hx).mono (key 0)
    · exact (res_100 c F g x _ _ w h hx).mono (key 100)
    · exact (res_102 c F g x _ _ w h hx).mono (key 102)
    · exact (res_103 c F g x _ _ w h hx).mono (key 103)
    · exact (res_104 c F g x _ _ w h hx).mono (key 104)
    · exact (res_105 c F g x _ _ w h hx).mono (key 105)
  · have hr : rAll k x ds = rTells k x ds := if_neg h0
    rw [hr]
    exact res_tells k (by unfold thereN at hk; unfold tells; omega) c F g x xo xc ds w h hx hs hxb hlen hnl

end Go.Proofs.Ytanknjpcgceccaa
