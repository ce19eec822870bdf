/- nfsx.WriteRes of any results. (Printed by wip/tools/gen_gen27.py out of XGen22.) -/
import Derived.Test.YtanknjpcgceccaaGen26
import Derived.Lib.BufferMore
namespace Go.Proofs.Ytanknjpcgceccaa
open Go.RowKit

set_option maxRecDepth 100000 in
set_option maxHeartbeats 1000000 in
theorem clone_any (eo : Option Addr) (ec : Nat) (es : List EntryV) (w : World) (hs : Sl w 20 eo es.length ec (flatE es)) (hlen : es.length ≤ 1000000) :
    Calls Try.prog 48 #[.slice eo es.length ec] w fun e w' => ∃ zo zc, e = .returned (.slice zo es.length zc) ∧ OwnE w' zo zc es ∧ Mods (fun _ => False) w w' ∧ ∀ k, blk zo k → w.heap.size ≤ k := by
  have HS := hid hs; have HL := hid hlen
  clear hs hlen
  go_enter Try.func48, Try.ntmps48
  cases eo with
  | none =>
    have hc : ec = 0 := HS.out.2.2.1 rfl
    subst hc
    have h0 : es = [] := List.eq_nil_of_length_eq_zero (Nat.le_zero.1 HS.out.2.1)
    subst h0
    have hnil : ∀ W, (binOp .eql 40 (.slice none 0 0) (.slice none 0 0)).run Try.prog W = .ok (.bool true) W := fun W => Lib.run_eql_slice_nil_nil W _ _ Try.underlying40
    go_wp2
    go_ret
    exact ⟨none, 0, rfl, OwnE.nil _, Mods.refl _ _, fun k hk => hk.elim⟩
  | some ad =>
    have hnil : ∀ W, (binOp .eql 40 (.slice (some ad) es.length ec) (.slice none 0 0)).run Try.prog W = .ok (.bool false) W := fun W => Lib.run_eql_slice_nil (P := Try.prog) W _ _ (some ad) _ _ 0 0 Try.underlying40
    obtain ⟨i0, hi, hz0, hz1, hz2⟩ := info_parts Try.infoE
    have hz : (Value.agg zeroE.cells.toArray).cells.size = 20 := rfl
    have hown : Own (w.alloc (.cells #[] 105)) 105 20 (some ⟨w.heap.size, 0, none⟩) 0 0 [] := ⟨rfl, .inr ⟨w.heap.size, 0, #[], rfl, Nat.zero_le _, heap_alloc_new w _, Nat.le_refl _, by decide, rfl, rfl⟩⟩
    go_wp2_with (at_builtin; refine wpList_app _ rfl _ _ _ rfl 105 i0 _ 20 144 Try.underlying40 hi hz0 hz1 hz2 hz (by decide) _ _ _ [] rfl hown (some ad) es.length ec (flatE es) rfl (HS.out.alloc _) (oneCell_E es) ?cl (by decide) ?_)
    case cl => have := HL.out; omega
    intro ao' cap' w' h1 h2 h3
    have hm : Mods (fun _ => False) w w' := (Mods.alloc _ _ _).step h2 fun k hk h => by cases h; simp at hk
    have hf : ∀ k, blk ao' k → w.heap.size ≤ k := fun k hk => by
      rcases h3 k hk with e | e
      · cases e; exact Nat.le_refl _
      · omega
    have hrow : w'.ownsRow 0 105 20 (.slice ao' es.length cap') es.length (flatE es) := h1
    obtain ⟨zo, zc, he, ho, _⟩ := OwnE.of_row hrow
    simp only [Value.slice.injEq] at he
    obtain ⟨rfl, _, rfl⟩ := he
    have HM := hid hm; have HF := hid hf; have HO := hid ho
    clear hm hf ho h1 h2 h3 hrow hown hnil
    go_wp2
    go_ret
    exact ⟨_, _, rfl, HO.out, HM.out, HF.out⟩

theorem resCells_upd83 (a : ResV) (dv ev ev' : Value) : upd (resCells a dv ev) 83 ev' = resCells a dv ev' := by
  funext j
  have h : a.cells dv ev' = (a.cells dv ev).set 83 ev' := rfl
  unfold resCells
  by_cases e : j = 83
  · subst e; rw [upd_at]; rfl
  · rw [upd_ne _ _ e, h, List.getElem?_set_ne (by omega)]
/-- What WriteRes gives. -/
def wresE (p : Int) (a : ResV) (dv ev : Value) : List UInt8 × Int :=
  if there p then (match (rAllE p.toNat (.wr false [], resCells a dv ev) a.data a.entries).1.1 with
    | .wr false out => (out, 0)
    | _ => ([], 33)) else ([], 36)
theorem like_lines (plus : Bool) (n : Nat) : ∀ (i : Nat) (es : List EntryV) (s : St), Like (lines plus n i es s).2 s := by
  induction n with
  | zero => intro i es s; exact Like.refl _
  | succ n ih =>
    intro i es s
    rw [lines]
    split
    · exact Like.refl _
    · simp only
      split
      · exact like_truth _ _
      · refine (ih _ _ _).trans ?_
        refine (like_pEntry _ _ _).trans ?_
        show Like (if i = es.length then _ else _) s
        split
        · exact (like_must _ _).trans (like_truth _ _)
        · exact like_truth _ _
theorem like_gAllE (k : Nat) (y : X) (ds : List UInt8) (es : List EntryV) : Like (gAllE k y ds es).1.1 y.1 := by
  unfold gAllE
  split
  · exact (like_pTruth _ _).trans ((like_lines _ _ _ _ _).trans ((like_must _ _).trans (like_num1 _ _ _ _)))
  · exact like_gAll _ _ _
theorem like_rOther (k : Nat) (x : X) : Like (rOther k x).1 x.1 := by
  unfold rOther
  split
  · exact like_pFixed _ _
  · exact (like_pFixed _ _).trans ((like_must _ _).trans ((like_row _ _ _).trans (like_pFixed _ _)))
  · exact Like.refl _
theorem like_rAllE (k : Nat) (x : X) (ds : List UInt8) (es : List EntryV) : Like (rAllE k x ds es).1.1 x.1 := by
  unfold rAllE
  split
  · exact like_rOther _ _
  · unfold rTellsE
    split
    · exact (like_gAllE _ _ _ _).trans (like_rFront _ _)
    · exact like_rFront _ _

set_option maxRecDepth 100000 in
set_option maxHeartbeats 4000000 in
theorem WriteRes_anyE (p : Int) (a : ResV) (xo : Option Addr) (xc : Nat) (eo : Option Addr) (ec : Nat) (w : World) (hs : SlB w xo xc a.data) (hb : ∀ k, rb xo a.data.length k → k < w.heap.size) (hse : Sl w 20 eo a.entries.length ec (flatE a.entries)) (ht0 : ∀ dv ev, Typed (resLay dv ev) (resCells a dv ev)) (hd : a.data.length ≤ 2000000)
    (hok : ∀ e ∈ a.entries, e.ok) (hel : a.entries.length ≤ 1000000) (hroom : roomFrom 0 a.entries ≤ 5000000) :
    Calls Try.prog 18 #[.int .i64 p, .agg (a.cells (.slice xo a.data.length xc) (.slice eo a.entries.length ec)).toArray] w fun e w' => ∃ ev yo yc, e = .returned (.tuple #[.slice yo (wresE p a (.slice xo a.data.length xc) ev).1.length yc, .int .i64 (wresE p a (.slice xo a.data.length xc) ev).2]) ∧
      OwnB w' yo yc (wresE p a (.slice xo a.data.length xc) ev).1 ∧ Mods (fun _ => False) w w' ∧ (∀ k, blk yo k → w.heap.size ≤ k) ∧ (wresE p a (.slice xo a.data.length xc) ev).1.length ≤ 20000000 := by
  have HS := hid hs; have HB := hid hb; have HT0 := hid ht0; have HD := hid hd; have HSE := hid hse; have HOK := hid hok; have HEL := hid hel; have HROOM := hid hroom
  clear hs hb ht0 hd hse hok hel hroom
  by_cases ht : there p = true
  · obtain ⟨k, rfl, hk⟩ := there_nat ht
    have HIS := hid (fun w => is_any (k : Int) w)
    rw [ht] at HIS
    have HTHERE := hid ht
    obtain ⟨A, hAe⟩ : ∃ A, A = (a.cells (.slice xo a.data.length xc) (.slice eo a.entries.length ec)).toArray := ⟨_, rfl⟩
    rw [← hAe]
    have HA := hid hAe
    have HK := hid hk
    clear hAe hk ht
    go_enter Try.func18, Try.ntmps18
    go_wp2_with fail
    refine (HIS.out _).mono ?_
    rintro e w0 ⟨rfl, rfl⟩
    have hm0 : Mods (fun _ => False) w (w.alloc (.cells A 42)) := Mods.alloc _ _ _
    have hsz : (w.alloc (.cells A 42)).heap.size = w.heap.size + 1 := by simp
    have hbl : Blk (w.alloc (.cells A 42)) w.heap.size (resCells a (.slice xo a.data.length xc) (.slice eo a.entries.length ec)) := (Blk.new w A _).congr (by funext j; rw [HA.out]; simp [resCells])
    go_upto_region 3 with fail
    generalize w.alloc (.cells A 42) = w0 at hm0 hsz hbl ⊢
    have HM0 := hid hm0; have HBL := hid hbl; have HSZ := hid hsz
    have h83 : resCells a (.slice xo a.data.length xc) (.slice eo a.entries.length ec) 83 = some (.slice eo a.entries.length ec) := rfl
    have hc83 : w0.cell? ⟨w.heap.size, 83, none⟩ = some (.slice eo a.entries.length ec) := (hbl.cell 83).trans h83
    have HC := hid (clone_any eo ec a.entries w0 (HSE.out.keep hm0 fun _ _ h => h) HEL.out)
    clear hm0 hbl HIS hsz h83
    go_wp2_with fail
    refine HC.out.mono ?_
    rintro e wz ⟨zo, zc, rfl, hoz, hmz, hfz⟩
    have hblz := HBL.out.keep hmz fun h => h
    have h83 : resCells a (.slice xo a.data.length xc) (.slice eo a.entries.length ec) 83 = some (.slice eo a.entries.length ec) := rfl
    have hc83z : wz.cell? ⟨w.heap.size, 83, none⟩ = some (.slice eo a.entries.length ec) := (hblz.cell 83).trans h83
    have hf83 := hblz.free 83
    have hset := hblz.set h83 (.slice zo a.entries.length zc)
    rw [resCells_upd83] at hset
    have hms : Mods (fun k => k = w.heap.size) wz (wz.setCell ⟨w.heap.size, 83, none⟩ (.slice zo a.entries.length zc)) := Mods.setCell (F := fun k => k = w.heap.size) (a := ⟨w.heap.size, 83, none⟩) rfl _
    have hszs : (wz.setCell ⟨w.heap.size, 83, none⟩ (.slice zo a.entries.length zc)).heap.size = wz.heap.size := by simp
    have hmz' : Mods (fun _ => False) w wz := HM0.out.trans hmz
    have hwz : w.heap.size < wz.heap.size := by have h1 := hmz.size; have h2 := HSZ.out; omega
    have hfz' : ∀ k, blk zo k → w.heap.size < k ∧ k < wz.heap.size := fun k hk => ⟨by have h1 := hfz k hk; have h2 := HSZ.out; omega, hoz.lt k hk⟩
    have HMS := hid hms; have HSET := hid hset; have HSZS := hid hszs; have HOZ := hid hoz; have HFZ := hid hfz'; have HMZ := hid hmz'; have HWZ := hid hwz
    clear hoz hmz hfz hblz h83 hset hms hszs hmz' hwz hfz' HC hc83
    go_upto_region 4 with fail
    generalize wz.setCell ⟨w.heap.size, 83, none⟩ (.slice zo a.entries.length zc) = v0 at HMS HSET HSZS ⊢
    clear hc83z hf83
    have HM0' : Hid (Mods (fun _ => False) w v0) := HMZ.out.step HMS.out fun k hk e => by omega
    have HOV : Hid (OwnE v0 zo zc a.entries) := HOZ.out.keep HMS.out fun k hk e => by have := (HFZ.out k hk).1; omega
    have HFV : Hid (∀ k, blk zo k → w.heap.size < k ∧ k < v0.heap.size) := fun k hk => by have h1 := HFZ.out k hk; have h2 := HSZS.out; exact ⟨h1.1, by omega⟩
    have HWV : Hid (w.heap.size < v0.heap.size) := by have h1 := HWZ.out; have h2 := HSZS.out; show _ < _; omega
    clear HM0 HBL HMS HSZ HSZS HOZ HFZ HMZ HWZ
    have HT := hid (HT0.out (.slice xo a.data.length xc) (.slice zo a.entries.length zc))
    have hlike := like_rAllE k (.wr false [], resCells a (.slice xo a.data.length xc) (.slice zo a.entries.length zc)) a.data a.entries
    generalize hq : rAllE k (.wr false [], resCells a (.slice xo a.data.length xc) (.slice zo a.entries.length zc)) a.data a.entries = q at hlike
    obtain ⟨⟨s, A'⟩, ds', es'⟩ := q
    have HQ := hid hq
    clear hq
    cases s with
    | rd i po er bd => exact absurd hlike.1 (by simp [St.isWr])
    | wr bad out =>
    have HW : Hid (wresE (k : Int) a (.slice xo a.data.length xc) (.slice zo a.entries.length zc) = if bad then ([], 33) else (out, 0)) := by
      show _ = _
      simp only [wresE, HTHERE.out, if_true, Int.toNat_natCast, HQ.out]
      cases bad <;> rfl
    clear hlike
    have hsz := HWV.out
    go_wp2_with fail
    refine (NewWriter_any _).mono ?_
    rintro e w1 ⟨pp, rfl, hp, hw1, hm1⟩
    have hlt1 := hw1.lt
    have hm2 : Mods (fun _ => False) v0 (w1.alloc (.cells #[.pointer none, .pointer (some ⟨pp, 0, none⟩), .bool false] 69)) := hm1.trans (Mods.alloc _ _ _)
    have hcw : CW (w1.alloc (.cells #[.pointer none, .pointer (some ⟨pp, 0, none⟩), .bool false] 69)) w1.heap.size pp none 0 false [] := ⟨heap_alloc_new w1 _, hw1.alloc _, by omega, fun h => h⟩
    have hsz1 := hm1.size
    have hnew : ∀ k, k < v0.heap.size → ¬ FC w1.heap.size pp none k := fun k hk hf => by
      rcases hf with e | e | e
      · omega
      · omega
      · exact e
    have hat : At (w1.alloc (.cells #[.pointer none, .pointer (some ⟨pp, 0, none⟩), .bool false] 69)) w1.heap.size (FC w1.heap.size pp none) w.heap.size (.wr false [], resCells a (.slice xo a.data.length xc) (.slice zo a.entries.length zc)) :=
      ⟨⟨pp, none, 0, hcw, rfl⟩, HSET.out.keep hm2 (fun h => h), hnew _ (by omega)⟩
    have hsl : SlB (w1.alloc (.cells #[.pointer none, .pointer (some ⟨pp, 0, none⟩), .bool false] 69)) xo xc a.data := (HS.out.keep HM0'.out fun _ _ h => h).keep hm2 fun _ _ h => h
    have hm02 : Mods (fun _ => False) w (w1.alloc (.cells #[.pointer none, .pointer (some ⟨pp, 0, none⟩), .bool false] 69)) := HM0'.out.trans hm2
    have hargs := res_anyE k HK.out w1.heap.size (FC w1.heap.size pp none) w.heap.size _ xo xc a.data zo zc a.entries _ ⟨hat, hsl, fun j hj => by
      have h1 := HB.out j hj
      exact ⟨Nat.lt_of_lt_of_le h1 hm02.size, hnew _ (by omega), by omega, fun hz => by have := (HFV.out j hz).1; omega⟩, HOV.out.keep hm2 fun _ _ h => h, fun j hj => by
      have h1 := HFV.out j hj
      exact ⟨hnew _ h1.2, by omega⟩, HOK.out⟩ ⟨HT.out, Nat.zero_le _⟩ HD.out (fun hw => by cases hw) HROOM.out (by have := HEL.out; omega)
    rw [HQ.out] at hargs
    have HARGS := hid hargs
    have HM02 := hid hm02
    have HNEW := hid hnew
    clear hcw hat hsl hm02 hargs hm2 hm1 hw1 hnew
    go_wp2_with fail
    refine HARGS.out.mono ?_
    rintro e w3 ⟨rfl, F3, yo, yc, so3, sc3, q1, q2, q3, q4, q5, q6, q7, q8, q9, q10, q11⟩
    obtain ⟨p3, ao3, cap3, hw3, _⟩ := q1.out
    have hm03 := hid (HM02.out.step q2.out fun j hj hf => by
      rcases hf with hf | rfl | hf
      · exact HNEW.out j (by omega) hf
      · omega
      · have := (HFV.out j hf).1; omega)
    have hc1 := hw3.c1
    have hc2 := hw3.c2
    have HW3 := hid hw3
    have hol : out.length ≤ 20000000 := q11.out
    have HOL := hid hol
    clear HARGS q1 q2 q3 q4 q5 q6 q7 q8 q9 q10 q11 hw3
    cases bad
    · go_wp2_with fail
      refine (Done_any p3 ao3 cap3 out _ HW3.out.wr hol).mono ?_
      rintro e w4 ⟨uo, uc, rfl, ho4, hg4⟩
      have hm04 := hid (hm03.out.trans (hg4.mods.mono fun _ _ h => h))
      have ho4' := hid ho4
      have hfr := hid (fun k hk => Nat.le_trans hm03.out.size ((hg4.fresh k hk).resolve_left fun h => h))
      clear ho4 hg4 hc1 hc2
      go_wp2
      go_ret2
      refine ⟨.slice zo a.entries.length zc, uo, uc, ?_⟩
      rw [show wresE (k : Int) a (.slice xo a.data.length xc) (.slice zo a.entries.length zc) = (out, 0) from HW.out]
      exact ⟨rfl, ho4'.out, hm04.out, hfr.out, HOL.out⟩
    · clear hc1
      go_wp2
      go_ret2
      refine ⟨.slice zo a.entries.length zc, none, 0, ?_⟩
      rw [show wresE (k : Int) a (.slice xo a.data.length xc) (.slice zo a.entries.length zc) = ([], 33) from HW.out]
      exact ⟨rfl, OwnB.nil _, hm03.out, fun k hk => hk.elim, Nat.zero_le _⟩
  · have ht' : there p = false := by simpa using ht
    have hw : wresE p a (.slice xo a.data.length xc) (.slice none 0 0) = ([], 36) := by simp [wresE, ht']
    have HW := hid hw
    have HIS := hid (fun w => is_any p w)
    rw [ht'] at HIS
    obtain ⟨A, hAe⟩ : ∃ A, A = (a.cells (.slice xo a.data.length xc) (.slice eo a.entries.length ec)).toArray := ⟨_, rfl⟩
    rw [← hAe]
    have hm0 : Mods (fun _ => False) w (w.alloc (.cells A 42)) := Mods.alloc _ _ _
    have HM0 := hid hm0
    clear hAe hm0 hw ht ht'
    go_enter Try.func18, Try.ntmps18
    go_wp2_with fail
    refine (HIS.out _).mono ?_
    rintro e w0 ⟨rfl, rfl⟩
    go_wp2
    go_ret2
    refine ⟨.slice none 0 0, none, 0, ?_⟩
    rw [HW.out]
    exact ⟨rfl, OwnB.nil _, HM0.out, fun k hk => hk.elim, Nat.zero_le _⟩

end Go.Proofs.Ytanknjpcgceccaa
