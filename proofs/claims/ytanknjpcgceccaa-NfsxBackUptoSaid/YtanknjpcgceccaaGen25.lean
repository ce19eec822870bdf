/- nfsx's coder: good of any procedure, with any lines of a directory. (Printed by wip/tools/gen_gen25.py.) -/
import Derived.Test.YtanknjpcgceccaaGen24
namespace Go.Proofs.Ytanknjpcgceccaa
open Go.RowKit

/-- What stands behind a Status that is OK; the data, the lines. -/
def gAllE (k : Nat) (y : X) (ds : List UInt8) (es : List EntryV) : X × List UInt8 × List EntryV :=
  if k = 16 ∨ k = 17 then (let y1 := num1 8 .u64 82 y; let r := linesAll (k == 17) es y1.1; (pTruth 78 (r.2, y1.2), ds, r.1)) else (let q := gAll k y ds; (q.1, q.2, es))
/-- The coder at results in block g: the data's slice, the lines' slice. -/
structure ResS (w : World) (c : Nat) (F : Nat → Prop) (g : Nat) (y : X) (xo : Option Addr) (xc : Nat) (ds : List UInt8) (eo : Option Addr) (ec : Nat) (es : List EntryV) : Prop where
  at_ : At w c F g y
  dat : SlB w xo xc ds
  dsep : ∀ k, rb xo ds.length k → k < w.heap.size ∧ ¬ F k ∧ k ≠ g ∧ ¬ blk eo k
  own : OwnE w eo ec es
  esep : ∀ k, blk eo k → ¬ F k ∧ k ≠ g
  eok : ∀ e ∈ es, e.ok
theorem ResS.go {w w' : World} {c : Nat} {F F' : Nat → Prop} {g : Nat} {y y' : X} {xo : Option Addr} {xc : Nat} {ds : List UInt8} {eo : Option Addr} {ec : Nat} {es : List EntryV} (h : ResS w c F g y xo xc ds eo ec es) (ha : At w' c F' g y') (hg : GG w F g w' F') : ResS w' c F' g y' xo xc ds eo ec es :=
  ⟨ha, h.dat.keep hg.mods fun j hj hf => hf.elim (h.dsep j hj).2.1 (h.dsep j hj).2.2.1, fun j hj => ⟨Nat.lt_of_lt_of_le (h.dsep j hj).1 hg.mods.size, hg.apart (h.dsep j hj).2.1 (h.dsep j hj).1, (h.dsep j hj).2.2⟩,
    h.own.keep hg.mods fun j hj hf => hf.elim (h.esep j hj).1 (h.esep j hj).2, fun j hj => ⟨hg.apart (h.esep j hj).1 (h.own.lt j hj), (h.esep j hj).2⟩, h.eok⟩
/-- What a way through results leaves. -/
def ResPE (w : World) (c : Nat) (F : Nat → Prop) (g : Nat) (xo : Option Addr) (n : Nat) (eo : Option Addr) (r : X × List UInt8 × List EntryV) (e : Ending) (w' : World) : Prop :=
  e = .returned (.tuple #[]) ∧ ∃ F' xo' xc' eo' ec', Hid (CO w' c F' r.1.1) ∧ Hid (Mods (fun k => F k ∨ k = g ∨ blk eo k) w w') ∧ Hid (∀ k, F' k → F k ∨ w.heap.size ≤ k) ∧
    Hid (Blk w' g (upd (upd r.1.2 79 (.slice xo' r.2.1.length xc')) 83 (.slice eo' r.2.2.length ec'))) ∧ Hid (SlB w' xo' xc' r.2.1) ∧ Hid (∀ k, rb xo' r.2.1.length k → k < w'.heap.size ∧ k ≠ g ∧ (rb xo n k ∨ w.heap.size ≤ k)) ∧
    Hid (OwnE w' eo' ec' r.2.2) ∧ Hid (∀ k, blk eo' k → k ≠ g ∧ (blk eo k ∨ w.heap.size ≤ k)) ∧ Hid (∀ e ∈ r.2.2, e.ok) ∧ Hid (∃ dv ev, Typed (resLay dv ev) r.1.2) ∧ Hid (r.1.1.size ≤ 20000000)
theorem ResPE.of {w w' : World} {c : Nat} {F : Nat → Prop} {g : Nat} {xo : Option Addr} {xc : Nat} {y0 y : X} {ds : List UInt8} {eo : Option Addr} {ec : Nat} {es : List EntryV} {e : Ending} {m : Nat} (s : ResS w c F g y0 xo xc ds eo ec es) (q : GQ w c F g (.tuple #[]) y e w')
    (hy : Ok (resLay (.slice xo ds.length xc) (.slice eo es.length ec)) m y) (hm : m ≤ 20000000) : ResPE w c F g xo ds.length eo (y, ds, es) e w' := by
  obtain ⟨he, F', q1, q2⟩ := q
  have h2 := s.go q1.out q2.out
  have hd : y.2 79 = some (.slice xo ds.length xc) := hy.ty 79 _ rfl
  have hl : y.2 83 = some (.slice eo es.length ec) := hy.ty 83 _ rfl
  refine ⟨he, F', xo, xc, eo, ec, q1.out.co, q2.out.mods.mono fun _ _ h => h.imp id .inl, q2.out.fresh, ?_, h2.dat, fun j hj => ⟨(h2.dsep j hj).1, (h2.dsep j hj).2.2.1, .inl hj⟩, h2.own, fun j hj => ⟨(h2.esep j hj).2, .inl hj⟩, s.eok, ⟨_, _, hy.ty⟩, Nat.le_trans hy.size hm⟩
  show Blk w' g (upd (upd y.2 79 (.slice xo ds.length xc)) 83 (.slice eo es.length ec))
  rw [upd_self hd, upd_self hl]
  exact q1.out.bl
theorem resLay_upd83 {dv ev ev' : Value} {A : Cells} (h : Typed (resLay dv ev) A) : Typed (resLay dv ev') (upd A 83 ev') := by
  intro j t hj
  by_cases e : j = 83
  · subst e
    rw [upd_at]
    obtain rfl := Option.some.inj hj
    rfl
  · rw [upd_ne _ _ e]
    have h2 : (resLay dv ev)[j]? = (resLay dv ev')[j]? := by
      have : resLay dv ev' = (resLay dv ev).set 83 (.is ev') := rfl
      rw [this, List.getElem?_set_ne (by omega)]
    exact h j t (h2.trans hj)
theorem upd_comm (A : Cells) {a b : Nat} (u v : Value) (h : a ≠ b) : upd (upd A a u) b v = upd (upd A b v) a u := by
  funext j
  by_cases h1 : j = b
  · subst h1; rw [upd_at, upd_ne _ _ (Ne.symm h), upd_at]
  · rw [upd_ne _ _ h1]
    by_cases h2 : j = a
    · subst h2; rw [upd_at, upd_at]
    · rw [upd_ne _ _ h2, upd_ne _ _ h2, upd_ne _ _ h1]
theorem pTruth_upd (s : St) (A : Cells) (v : Value) : pTruth 78 (s, upd A 83 v) = ((pTruth 78 (s, A)).1, upd (pTruth 78 (s, A)).2 83 v) := by
  unfold pTruth
  simp only
  rw [upd_ne _ _ (by decide : (78 : Nat) ≠ 83), upd_comm _ _ _ (by decide : (83 : Nat) ≠ 78)]

set_option maxRecDepth 100000 in
set_option maxHeartbeats 4000000 in
theorem good_16e (c : Nat) (F0 : Nat → Prop) (g : Nat) (y0 : X) (xo : Option Addr) (xc : Nat) (ds : List UInt8) (eo : Option Addr) (ec : Nat) (es : List EntryV) (w0 : World) (h : ResS w0 c F0 g y0 xo xc ds eo ec es) (hk : Ok (resLay (.slice xo ds.length xc) (.slice eo es.length ec)) 4000000 y0)
    (hrd : y0.1.isWr = false → es = []) (hroom : roomFrom 0 es ≤ 5000000) (hlen : es.length ≤ 9223372036854775807) :
    Calls Try.prog 73 #[.pointer (some ⟨c, 0, none⟩), .int .i64 16, .pointer (some ⟨g, 0, none⟩)] w0 (ResPE w0 c F0 g xo ds.length eo (gAllE 16 y0 ds es)) := by
  have S0 : Hid (ResS w0 c F0 g y0 xo xc ds eo ec es) := h
  have K0 : Hid (Ok (resLay (.slice xo ds.length xc) (.slice eo es.length ec)) 4000000 y0) := hk
  obtain ⟨y1, e1⟩ : ∃ z, z = num1 8 .u64 82 y0 := ⟨_, rfl⟩
  have K1 : Hid (Ok (resLay (.slice xo ds.length xc) (.slice eo es.length ec)) 4000008 y1) := by rw [e1]; exact (K0.out.num8 rfl).mono (by decide)
  have D := hid (S0.out.at_.u64 K0.out (by decide) (o := 82) 125 rfl)
  rw [← e1] at D
  have HRD : Hid (y1.1.isWr = false → es = []) := fun hw => hrd (by rw [← hw, e1]; exact ((like_num1 _ _ _ _).1).symm)
  obtain ⟨r, hr⟩ : ∃ z, z = linesAll false es y1.1 := ⟨_, rfl⟩
  have HEND : Hid (gAllE 16 y0 ds es = (pTruth 78 (r.2, y1.2), ds, r.1)) := by show _ = _; rw [hr, e1]; rfl
  have HROOM := hid hroom; have HLEN := hid hlen; have HR := hid hr
  clear h hk hrd hroom hlen hr e1
  go_enter Try.func73, Try.ntmps73
  go_wp2_with fail
  refine D.out.mono ?_
  rintro e w1 ⟨rfl, F1, A1, g1⟩
  clear D
  have S1 := hid (S0.out.go A1.out g1.out)
  have h83 : y1.2 83 = some (.slice eo es.length ec) := K1.out.ty 83 _ rfl
  have hE : EI w1 F1 c g 83 y1.2 eo w1 F1 eo ec y1.1 es := ⟨A1.out.co, by rw [upd_self h83]; exact A1.out.bl, S1.out.own, A1.out.ap, S1.out.esep, S1.out.eok, Mods.refl _ _, fun _ h => .inl h, fun _ h => .inl h⟩
  have D := hid (entries_gen c F1 g 83 y1.2 eo ec y1.1 es false w1 hE HRD.out (by have := K1.out.size; have := HROOM.out; omega) HLEN.out)
  rw [← HR.out] at D
  clear hE h83
  go_wp2_with fail
  refine D.out.mono ?_
  rintro e w2 ⟨rfl, F2, eo2, ec2, E2, hz2⟩
  clear D
  have A2 : Hid (At w2 c F2 g (r.2, upd y1.2 83 (.slice eo2 r.1.length ec2))) := ⟨E2.out.co, E2.out.bl, E2.out.apg⟩
  have K2 : Hid (Ok (resLay (.slice xo ds.length xc) (.slice eo2 r.1.length ec2)) 10000000 (r.2, upd y1.2 83 (.slice eo2 r.1.length ec2))) := ⟨resLay_upd83 K1.out.ty, hz2.out⟩
  have K2' : Hid (Ok (resLay (.slice xo ds.length xc) (.slice eo es.length ec)) 10000004 (pTruth 78 (r.2, y1.2))) := Ok.truth (x := (r.2, y1.2)) ⟨K1.out.ty, hz2.out⟩ rfl
  have D := hid (A2.out.truth K2.out (by decide) (o := 78) rfl)
  rw [pTruth_upd] at D
  have Z2 := hid hz2.out
  clear hz2
  go_wp2_with fail
  refine D.out.mono ?_
  rintro e w3 ⟨rfl, F3, A3, g3⟩
  clear D
  go_wp2
  go_end0
  rw [HEND.out]
  have hd : (pTruth 78 (r.2, y1.2)).2 79 = some (.slice xo ds.length xc) := K2'.out.ty 79 _ rfl
  have hape : ∀ k, blk eo2 k → ¬ (F2 k ∨ k = g) := fun j hj hf => hf.elim (E2.out.ape j hj).1 (E2.out.ape j hj).2
  have hdk : ∀ j, rb xo ds.length j → ¬ (F2 j ∨ j = g) := fun j hj hf => by
    have hs := S1.out.dsep j hj
    rcases hf with hf | hf
    · rcases E2.out.fresh j hf with e | e
      · exact hs.2.1 e
      · omega
    · exact hs.2.2.1 hf
  have hm2 : Mods (fun k => F0 k ∨ k = g ∨ blk eo k) w0 w2 := (g1.out.mods.mono fun _ _ h => h.imp id .inl).step E2.out.mods fun j hj hf => by
    rcases hf with hf | hf
    · rcases g1.out.fresh j hf with e | e
      · exact .inl e
      · omega
    · exact .inr hf
  have hfr2 : ∀ j, F2 j → F0 j ∨ w0.heap.size ≤ j := fun j hj => by
    rcases E2.out.fresh j hj with e | e
    · exact g1.out.fresh j e
    · exact .inr (Nat.le_trans g1.out.mods.size e)
  refine ⟨rfl, F3, xo, xc, eo2, ec2, A3.out.co, hm2.step g3.out.mods fun j hj hf => ?_, fun j hj => ?_, ?_, (S1.out.dat.keep E2.out.mods fun j hj hf => ?_).keep g3.out.mods hdk, fun j hj => ⟨?_, (S1.out.dsep j hj).2.2.1, .inl hj⟩, E2.out.ow.keep g3.out.mods hape, fun j hj => ⟨(E2.out.ape j hj).2, ?_⟩, E2.out.ok, ⟨_, _, K2'.out.ty⟩, Nat.le_trans K2'.out.size (by decide)⟩
  · rcases hf with hf | hf
    · rcases hfr2 j hf with e | e
      · exact .inl e
      · omega
    · exact .inr (.inl hf)
  · rcases g3.out.fresh j hj with e | e
    · exact hfr2 j e
    · exact .inr (Nat.le_trans hm2.size e)
  · show Blk w3 g (upd (upd (pTruth 78 (r.2, y1.2)).2 79 (.slice xo ds.length xc)) 83 (.slice eo2 r.1.length ec2))
    rw [upd_self hd]
    exact A3.out.bl
  · have hs := S1.out.dsep j hj
    rcases hf with hf | hf | hf
    · exact hs.2.1 hf
    · exact hs.2.2.1 hf
    · exact hs.2.2.2 hf
  · exact Nat.lt_of_lt_of_le (S1.out.dsep j hj).1 (Nat.le_trans E2.out.mods.size g3.out.mods.size)
  · rcases E2.out.efresh j hj with e | e
    · exact .inl e
    · exact .inr (Nat.le_trans g1.out.mods.size e)

set_option maxRecDepth 100000 in
set_option maxHeartbeats 4000000 in
theorem good_17e (c : Nat) (F0 : Nat → Prop) (g : Nat) (y0 : X) (xo : Option Addr) (xc : Nat) (ds : List UInt8) (eo : Option Addr) (ec : Nat) (es : List EntryV) (w0 : World) (h : ResS w0 c F0 g y0 xo xc ds eo ec es) (hk : Ok (resLay (.slice xo ds.length xc) (.slice eo es.length ec)) 4000000 y0)
    (hrd : y0.1.isWr = false → es = []) (hroom : roomFrom 0 es ≤ 5000000) (hlen : es.length ≤ 9223372036854775807) :
    Calls Try.prog 73 #[.pointer (some ⟨c, 0, none⟩), .int .i64 17, .pointer (some ⟨g, 0, none⟩)] w0 (ResPE w0 c F0 g xo ds.length eo (gAllE 17 y0 ds es)) := by
  have S0 : Hid (ResS w0 c F0 g y0 xo xc ds eo ec es) := h
  have K0 : Hid (Ok (resLay (.slice xo ds.length xc) (.slice eo es.length ec)) 4000000 y0) := hk
  obtain ⟨y1, e1⟩ : ∃ z, z = num1 8 .u64 82 y0 := ⟨_, rfl⟩
  have K1 : Hid (Ok (resLay (.slice xo ds.length xc) (.slice eo es.length ec)) 4000008 y1) := by rw [e1]; exact (K0.out.num8 rfl).mono (by decide)
  have D := hid (S0.out.at_.u64 K0.out (by decide) (o := 82) 125 rfl)
  rw [← e1] at D
  have HRD : Hid (y1.1.isWr = false → es = []) := fun hw => hrd (by rw [← hw, e1]; exact ((like_num1 _ _ _ _).1).symm)
  obtain ⟨r, hr⟩ : ∃ z, z = linesAll true es y1.1 := ⟨_, rfl⟩
  have HEND : Hid (gAllE 17 y0 ds es = (pTruth 78 (r.2, y1.2), ds, r.1)) := by show _ = _; rw [hr, e1]; rfl
  have HROOM := hid hroom; have HLEN := hid hlen; have HR := hid hr
  clear h hk hrd hroom hlen hr e1
  go_enter Try.func73, Try.ntmps73
  go_wp2_with fail
  refine D.out.mono ?_
  rintro e w1 ⟨rfl, F1, A1, g1⟩
  clear D
  have S1 := hid (S0.out.go A1.out g1.out)
  have h83 : y1.2 83 = some (.slice eo es.length ec) := K1.out.ty 83 _ rfl
  have hE : EI w1 F1 c g 83 y1.2 eo w1 F1 eo ec y1.1 es := ⟨A1.out.co, by rw [upd_self h83]; exact A1.out.bl, S1.out.own, A1.out.ap, S1.out.esep, S1.out.eok, Mods.refl _ _, fun _ h => .inl h, fun _ h => .inl h⟩
  have D := hid (entries_gen c F1 g 83 y1.2 eo ec y1.1 es true w1 hE HRD.out (by have := K1.out.size; have := HROOM.out; omega) HLEN.out)
  rw [← HR.out] at D
  clear hE h83
  go_wp2_with fail
  refine D.out.mono ?_
  rintro e w2 ⟨rfl, F2, eo2, ec2, E2, hz2⟩
  clear D
  have A2 : Hid (At w2 c F2 g (r.2, upd y1.2 83 (.slice eo2 r.1.length ec2))) := ⟨E2.out.co, E2.out.bl, E2.out.apg⟩
  have K2 : Hid (Ok (resLay (.slice xo ds.length xc) (.slice eo2 r.1.length ec2)) 10000000 (r.2, upd y1.2 83 (.slice eo2 r.1.length ec2))) := ⟨resLay_upd83 K1.out.ty, hz2.out⟩
  have K2' : Hid (Ok (resLay (.slice xo ds.length xc) (.slice eo es.length ec)) 10000004 (pTruth 78 (r.2, y1.2))) := Ok.truth (x := (r.2, y1.2)) ⟨K1.out.ty, hz2.out⟩ rfl
  have D := hid (A2.out.truth K2.out (by decide) (o := 78) rfl)
  rw [pTruth_upd] at D
  have Z2 := hid hz2.out
  clear hz2
  go_wp2_with fail
  refine D.out.mono ?_
  rintro e w3 ⟨rfl, F3, A3, g3⟩
  clear D
  go_wp2
  go_end0
  rw [HEND.out]
  have hd : (pTruth 78 (r.2, y1.2)).2 79 = some (.slice xo ds.length xc) := K2'.out.ty 79 _ rfl
  have hape : ∀ k, blk eo2 k → ¬ (F2 k ∨ k = g) := fun j hj hf => hf.elim (E2.out.ape j hj).1 (E2.out.ape j hj).2
  have hdk : ∀ j, rb xo ds.length j → ¬ (F2 j ∨ j = g) := fun j hj hf => by
    have hs := S1.out.dsep j hj
    rcases hf with hf | hf
    · rcases E2.out.fresh j hf with e | e
      · exact hs.2.1 e
      · omega
    · exact hs.2.2.1 hf
  have hm2 : Mods (fun k => F0 k ∨ k = g ∨ blk eo k) w0 w2 := (g1.out.mods.mono fun _ _ h => h.imp id .inl).step E2.out.mods fun j hj hf => by
    rcases hf with hf | hf
    · rcases g1.out.fresh j hf with e | e
      · exact .inl e
      · omega
    · exact .inr hf
  have hfr2 : ∀ j, F2 j → F0 j ∨ w0.heap.size ≤ j := fun j hj => by
    rcases E2.out.fresh j hj with e | e
    · exact g1.out.fresh j e
    · exact .inr (Nat.le_trans g1.out.mods.size e)
  refine ⟨rfl, F3, xo, xc, eo2, ec2, A3.out.co, hm2.step g3.out.mods fun j hj hf => ?_, fun j hj => ?_, ?_, (S1.out.dat.keep E2.out.mods fun j hj hf => ?_).keep g3.out.mods hdk, fun j hj => ⟨?_, (S1.out.dsep j hj).2.2.1, .inl hj⟩, E2.out.ow.keep g3.out.mods hape, fun j hj => ⟨(E2.out.ape j hj).2, ?_⟩, E2.out.ok, ⟨_, _, K2'.out.ty⟩, Nat.le_trans K2'.out.size (by decide)⟩
  · rcases hf with hf | hf
    · rcases hfr2 j hf with e | e
      · exact .inl e
      · omega
    · exact .inr (.inl hf)
  · rcases g3.out.fresh j hj with e | e
    · exact hfr2 j e
    · exact .inr (Nat.le_trans hm2.size e)
  · show Blk w3 g (upd (upd (pTruth 78 (r.2, y1.2)).2 79 (.slice xo ds.length xc)) 83 (.slice eo2 r.1.length ec2))
    rw [upd_self hd]
    exact A3.out.bl
  · have hs := S1.out.dsep j hj
    rcases hf with hf | hf | hf
    · exact hs.2.1 hf
    · exact hs.2.2.1 hf
    · exact hs.2.2.2 hf
  · exact Nat.lt_of_lt_of_le (S1.out.dsep j hj).1 (Nat.le_trans E2.out.mods.size g3.out.mods.size)
  · rcases E2.out.efresh j hj with e | e
    · exact .inl e
    · exact .inr (Nat.le_trans g1.out.mods.size e)

theorem good_anyE (k : Nat) (hk : tells k) (c : Nat) (F : Nat → Prop) (g : Nat) (y : X) (xo : Option Addr) (xc : Nat) (ds : List UInt8) (eo : Option Addr) (ec : Nat) (es : List EntryV) (w : World) (s : ResS w c F g y xo xc ds eo ec es) (hy : Ok (resLay (.slice xo ds.length xc) (.slice eo es.length ec)) 4000000 y)
    (hlen : ds.length ≤ 2000000) (hrd : y.1.isWr = false → es = []) (hroom : roomFrom 0 es ≤ 5000000) (hel : es.length ≤ 9223372036854775807) :
    Calls Try.prog 73 #[.pointer (some ⟨c, 0, none⟩), .int .i64 (k : Int), .pointer (some ⟨g, 0, none⟩)] w (ResPE w c F g xo ds.length eo (gAllE k y ds es)) := by
  have h := s.at_
  have key : ∀ k', k' ≠ 6 → k' ≠ 18 → k' ≠ 16 → k' ≠ 17 → ∀ e w', GQ w c F g (.tuple #[]) (pGood k' y) e w' ∧ Ok (resLay (.slice xo ds.length xc) (.slice eo es.length ec)) 8000000 (pGood k' y) → ResPE w c F g xo ds.length eo (gAllE k' y ds es) e w' := by
    intro k' h6 h18 h16 h17 e w' ⟨q, q3⟩
    have hp : gAllE k' y ds es = (pGood k' y, ds, es) := by rw [gAllE, if_neg (by omega), gAll, if_neg h6, if_neg h18]
    rw [hp]
    exact ResPE.of s q q3 (by decide)
  have hc : k = 1 ∨ k = 2 ∨ k = 3 ∨ k = 4 ∨ k = 5 ∨ k = 6 ∨ k = 7 ∨ k = 8 ∨ k = 9 ∨ k = 10 ∨ k = 11 ∨ k = 12 ∨ k = 13 ∨ k = 14 ∨ k = 15 ∨ k = 16 ∨ k = 17 ∨ k = 18 ∨ k = 19 ∨ k = 20 ∨ k = 21 ∨ k = 101 := by unfold tells at hk; omega
  rcases hc with rfl | rfl | rfl | rfl | rfl | rfl | rfl | rfl | rfl | rfl | rfl | rfl | rfl | rfl | rfl | rfl | rfl | rfl | rfl | rfl | rfl | rfl
  · exact (good_1 c F g y _ _ w h hy).mono (key 1 (by decide) (by decide) (by decide) (by decide))
  · exact (good_2 c F g y _ _ w h hy).mono (key 2 (by decide) (by decide) (by decide) (by decide))
  · exact (good_3 c F g y _ _ w h hy).mono (key 3 (by decide) (by decide) (by decide) (by decide))
  · exact (good_4 c F g y _ _ w h hy).mono (key 4 (by decide) (by decide) (by decide) (by decide))
  · exact (good_5 c F g y _ _ w h hy).mono (key 5 (by decide) (by decide) (by decide) (by decide))
  · refine (good_6 c F g y xo xc ds _ _ rfl w h hy s.dat (fun j hj => ⟨(s.dsep j hj).1, (s.dsep j hj).2.1, (s.dsep j hj).2.2.1⟩) hlen).mono ?_
    rintro e w' ⟨⟨F', yo, yc, he, q1, q2, q3, q4, q5⟩, q6⟩
    have hs6 : SlB w' yo yc ((pGood 6 y).1.row 8192 ds).1 := q4
    have hb6 : Blk w' g (upd (pGood 6 y).2 79 (.slice yo ((pGood 6 y).1.row 8192 ds).1.length yc)) := q3
    have hev : (upd (pGood 6 y).2 79 (.slice yo ((pGood 6 y).1.row 8192 ds).1.length yc)) 83 = some (.slice eo es.length ec) := by rw [upd_ne _ _ (by decide : (83 : Nat) ≠ 79)]; exact q6.ty 83 _ rfl
    refine ⟨he, F', yo, yc, eo, ec, q1, q2.mods.mono fun _ _ h => h.imp id .inl, q2.fresh, ?_, hs6, fun j hj => ?_, s.own.keep q2.mods fun j hj hf => hf.elim (s.esep j hj).1 (s.esep j hj).2, fun j hj => ⟨(s.esep j hj).2, .inl hj⟩, s.eok, ⟨_, _, q6.ty⟩, ?_⟩
    · show Blk w' g (upd (upd (pGood 6 y).2 79 (.slice yo ((pGood 6 y).1.row 8192 ds).1.length yc)) 83 (.slice eo es.length ec))
      rw [upd_self hev]; exact hb6
    · obtain ⟨a1, a2, a3, a4⟩ := q5 j hj
      exact ⟨a1, a3, a4⟩
    · have h1 := St.size_row (pGood 6 y).1 8192 ds
      have h2 := q6.size
      show ((pGood 6 y).1.row 8192 ds).2.size ≤ 20000000
      omega
  · exact (good_7 c F g y _ _ w h hy).mono (key 7 (by decide) (by decide) (by decide) (by decide))
  · exact (good_8 c F g y _ _ w h hy).mono (key 8 (by decide) (by decide) (by decide) (by decide))
  · exact (good_9 c F g y _ _ w h hy).mono (key 9 (by decide) (by decide) (by decide) (by decide))
  · exact (good_10 c F g y _ _ w h hy).mono (key 10 (by decide) (by decide) (by decide) (by decide))
  · exact (good_11 c F g y _ _ w h hy).mono (key 11 (by decide) (by decide) (by decide) (by decide))
  · exact (good_12 c F g y _ _ w h hy).mono (key 12 (by decide) (by decide) (by decide) (by decide))
  · exact (good_13 c F g y _ _ w h hy).mono (key 13 (by decide) (by decide) (by decide) (by decide))
  · exact (good_14 c F g y _ _ w h hy).mono (key 14 (by decide) (by decide) (by decide) (by decide))
  · exact (good_15 c F g y _ _ w h hy).mono (key 15 (by decide) (by decide) (by decide) (by decide))
  · exact good_16e c F g y xo xc ds eo ec es w s hy hrd hroom hel
  · exact good_17e c F g y xo xc ds eo ec es w s hy hrd hroom hel
  · refine (good_18 c F g y _ _ w h hy).mono ?_
    rintro e w' ⟨q, q3⟩
    exact ResPE.of (y := pSpace y) s q q3 (by decide)
  · exact (good_19 c F g y _ _ w h hy).mono (key 19 (by decide) (by decide) (by decide) (by decide))
  · exact (good_20 c F g y _ _ w h hy).mono (key 20 (by decide) (by decide) (by decide) (by decide))
  · exact (good_21 c F g y _ _ w h hy).mono (key 21 (by decide) (by decide) (by decide) (by decide))
  · exact (good_101 c F g y _ _ w h hy).mono (key 101 (by decide) (by decide) (by decide) (by decide))

end Go.Proofs.Ytanknjpcgceccaa
