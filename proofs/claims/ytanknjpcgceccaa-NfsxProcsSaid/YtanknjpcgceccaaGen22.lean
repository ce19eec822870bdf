/- nfsx.WriteRes of results without lines. -/
import Derived.Test.YtanknjpcgceccaaGen21
import Derived.Lib.BufferMore
namespace Go.Proofs.Ytanknjpcgceccaa
open Go.RowKit

set_option maxRecDepth 100000 in
theorem clone_nil (w : World) : Calls Try.prog 48 #[.slice none 0 0] w fun e w' => e = .returned (.slice none 0 0) ∧ w' = w := by
  go_enter Try.func48, Try.ntmps48
  have hnil : ∀ W, (binOp .eql 40 (.slice none 0 0) (.slice none 0 0)).run Try.prog W = .ok (.bool true) W := fun W => Lib.run_eql_slice_nil_nil W _ _ Try.underlying40
  go_wp2
  go_ret
  first | exact ⟨rfl, rfl⟩ | exact ⟨rfl, trivial⟩

/-- What WriteRes gives of results without lines. -/
def wres (p : Int) (a : ResV) (dv : Value) : List UInt8 × Int :=
  if there p then (match (rAll p.toNat (.wr false [], resCells a dv (.slice none 0 0)) a.data).1.1 with
    | .wr false out => (out, 0)
    | _ => ([], 33)) else ([], 36)

set_option maxRecDepth 100000 in
set_option maxHeartbeats 4000000 in
theorem WriteRes_any (p : Int) (a : ResV) (xo : Option Addr) (xc : Nat) (w : World) (hs : SlB w xo xc a.data) (hb : ∀ k, rb xo a.data.length k → k < w.heap.size) (hg : a.good) (hf : a.few) :
    Calls Try.prog 18 #[.int .i64 p, .agg (a.cells (.slice xo a.data.length xc) (.slice none 0 0)).toArray] w fun e w' => ∃ yo yc, e = .returned (.tuple #[.slice yo (wres p a (.slice xo a.data.length xc)).1.length yc, .int .i64 (wres p a (.slice xo a.data.length xc)).2]) ∧
      OwnB w' yo yc (wres p a (.slice xo a.data.length xc)).1 ∧ Mods (fun _ => False) w w' ∧ (∀ k, blk yo k → w.heap.size ≤ k) ∧ (wres p a (.slice xo a.data.length xc)).1.length ≤ 1000000 := by
  have HS := hid hs; have HB := hid hb; have HT := hid (typed_res hg hf (.slice xo a.data.length xc) (.slice none 0 0)); have HD := hid hf.2.2.1
  clear hs hb hg hf
  by_cases ht : there p = true
  · obtain ⟨k, rfl, hk⟩ := there_nat ht
    have hw : wres (k : Int) a (.slice xo a.data.length xc) = (match (rAll k (.wr false [], resCells a (.slice xo a.data.length xc) (.slice none 0 0)) a.data).1.1 with
      | .wr false out => (out, 0)
      | _ => ([], 33)) := by simp only [wres, ht, if_true, Int.toNat_natCast]
    have hlike := like_rAll k (.wr false [], resCells a (.slice xo a.data.length xc) (.slice none 0 0)) a.data
    have HNL : Hid (NoLines k (rFront k (.wr false [], resCells a (.slice xo a.data.length xc) (.slice none 0 0)))) := NoLines.wr rfl
    rw [hw]
    have HIS := hid (fun w => is_any (k : Int) w)
    rw [ht] at HIS
    obtain ⟨A, hAe⟩ : ∃ A, A = (a.cells (.slice xo a.data.length xc) (.slice none 0 0)).toArray := ⟨_, rfl⟩
    rw [← hAe]
    have HA := hid hAe
    have HK := hid hk
    have HW := hlike
    clear hAe hk hlike hw ht
    generalize hq : rAll k (.wr false [], resCells a (.slice xo a.data.length xc) (.slice none 0 0)) a.data = q at HW
    obtain ⟨⟨s, A'⟩, ds'⟩ := q
    have HQ := hid hq
    clear hq
    cases s with
    | rd i po er bd => exact absurd HW.1 (by simp [St.isWr])
    | wr bad out =>
    clear HW
    go_enter Try.func18, Try.ntmps18
    go_wp2_with fail
    refine (HIS.out _).mono ?_
    rintro e w0 ⟨rfl, rfl⟩
    have hm0 : Mods (fun _ => False) w (w.alloc (.cells A 42)) := Mods.alloc _ _ _
    have hsz : (w.alloc (.cells A 42)).heap.size = w.heap.size + 1 := by simp
    have hbl : Blk (w.alloc (.cells A 42)) w.heap.size (resCells a (.slice xo a.data.length xc) (.slice none 0 0)) := (Blk.new w A _).congr (by funext j; rw [HA.out]; simp [resCells])
    go_upto_region 3 with fail
    generalize w.alloc (.cells A 42) = w0 at hm0 hsz hbl ⊢
    have HM0 := hid hm0; have HBL := hid hbl; have HSZ := hid hsz
    have h83 : resCells a (.slice xo a.data.length xc) (.slice none 0 0) 83 = some (.slice none 0 0) := rfl
    have hc83 : w0.cell? ⟨w.heap.size, 83, none⟩ = some (.slice none 0 0) := (hbl.cell 83).trans h83
    have hf83 := hbl.free 83
    have hset := hbl.set h83 (.slice none 0 0)
    rw [upd_self h83] at hset
    have hms : Mods (fun k => k = w.heap.size) w0 (w0.setCell ⟨w.heap.size, 83, none⟩ (.slice none 0 0)) := Mods.setCell (F := fun k => k = w.heap.size) (a := ⟨w.heap.size, 83, none⟩) rfl _
    have hszs : (w0.setCell ⟨w.heap.size, 83, none⟩ (.slice none 0 0)).heap.size = w.heap.size + 1 := by simpa using hsz
    have HMS := hid hms; have HSET := hid hset; have HSZS := hid hszs
    clear hm0 hbl HIS h83 hset hms hszs hsz
    go_wp2_with fail
    refine (clone_nil _).mono ?_
    rintro e wz ⟨rfl, rfl⟩
    go_upto_region 4 with fail
    generalize wz.setCell ⟨w.heap.size, 83, none⟩ (.slice none 0 0) = v0 at HMS HSET HSZS ⊢
    clear hc83 hf83
    have HM0' : Hid (Mods (fun _ => False) w v0) := HM0.out.step HMS.out fun k hk e => by omega
    clear HM0 HBL HMS HSZ
    have hsz := HSZS.out
    go_wp2_with fail
    refine (NewWriter_any _).mono ?_
    rintro e w1 ⟨pp, rfl, hp, hw1, hm1⟩
    have hlt1 := hw1.lt
    have hm2 : Mods (fun _ => False) v0 (w1.alloc (.cells #[.pointer none, .pointer (some ⟨pp, 0, none⟩), .bool false] 69)) := hm1.trans (Mods.alloc _ _ _)
    have hcw : CW (w1.alloc (.cells #[.pointer none, .pointer (some ⟨pp, 0, none⟩), .bool false] 69)) w1.heap.size pp none 0 false [] := ⟨heap_alloc_new w1 _, hw1.alloc _, by omega, fun h => h⟩
    have hsz1 := hm1.size
    have hnew : ∀ k, k < v0.heap.size → ¬ FC w1.heap.size pp none k := fun k hk hf => by
      rcases hf with e | e | e
      · omega
      · omega
      · exact e
    have hat : At (w1.alloc (.cells #[.pointer none, .pointer (some ⟨pp, 0, none⟩), .bool false] 69)) w1.heap.size (FC w1.heap.size pp none) w.heap.size (.wr false [], resCells a (.slice xo a.data.length xc) (.slice none 0 0)) :=
      ⟨⟨pp, none, 0, hcw, rfl⟩, HSET.out.keep hm2 (fun h => h), hnew _ (by omega)⟩
    have hsl : SlB (w1.alloc (.cells #[.pointer none, .pointer (some ⟨pp, 0, none⟩), .bool false] 69)) xo xc a.data := (HS.out.keep HM0'.out fun _ _ h => h).keep hm2 fun _ _ h => h
    have hm02 : Mods (fun _ => False) w (w1.alloc (.cells #[.pointer none, .pointer (some ⟨pp, 0, none⟩), .bool false] 69)) := HM0'.out.trans hm2
    have hargs := res_any k HK.out w1.heap.size (FC w1.heap.size pp none) w.heap.size _ xo xc a.data _ hat ⟨HT.out, Nat.zero_le _⟩ hsl (fun j hj => by
      have h1 := HB.out j hj
      exact ⟨Nat.lt_of_lt_of_le h1 hm02.size, hnew _ (by omega), by omega⟩) HD.out HNL.out
    rw [HQ.out] at hargs
    have HARGS := hid hargs
    have HM02 := hid hm02
    have HNEW := hid hnew
    clear hcw hat hsl hm02 hargs hm2 hm1 hw1 hnew
    go_wp2_with fail
    refine HARGS.out.mono ?_
    rintro e w3 ⟨rfl, F3, yo, yc, q1, q2, q3, q4, q5, q6, q7, q8⟩
    obtain ⟨p3, ao3, cap3, hw3, _⟩ := q1.out
    have hm03 := hid (HM02.out.step q2.out.mods fun j hj hf => by
      rcases hf with hf | rfl
      · exact HNEW.out j (by omega) hf
      · omega)
    have hc1 := hw3.c1
    have hc2 := hw3.c2
    have HW3 := hid hw3
    have hol : out.length ≤ 1000000 := q8.out
    have HOL := hid hol
    clear HARGS q1 q2 q3 q4 q5 q6 q7 q8 hw3
    cases bad
    · go_wp2_with fail
      refine (Done_any p3 ao3 cap3 out _ HW3.out.wr hol).mono ?_
      rintro e w4 ⟨zo, zc, rfl, ho4, hg4⟩
      have hm04 := hid (hm03.out.trans (hg4.mods.mono fun _ _ h => h))
      have ho4' := hid ho4
      have hfr := hid (fun k hk => Nat.le_trans hm03.out.size ((hg4.fresh k hk).resolve_left fun h => h))
      clear ho4 hg4 hc1 hc2
      go_wp2
      go_ret2
      exact ⟨zo, zc, rfl, ho4'.out, hm04.out, hfr.out⟩
    · clear hc1
      go_wp2
      go_ret2
      exact ⟨none, 0, rfl, OwnB.nil _, hm03.out, fun k hk => hk.elim⟩
  · have ht' : there p = false := by simpa using ht
    have hw : wres p a (.slice xo a.data.length xc) = ([], 36) := by simp [wres, ht']
    rw [hw]
    have HIS := hid (fun w => is_any p w)
    rw [ht'] at HIS
    obtain ⟨A, hAe⟩ : ∃ A, A = (a.cells (.slice xo a.data.length xc) (.slice none 0 0)).toArray := ⟨_, rfl⟩
    rw [← hAe]
    have hm0 : Mods (fun _ => False) w (w.alloc (.cells A 42)) := Mods.alloc _ _ _
    have HM0 := hid hm0
    clear hAe hm0 hw ht ht'
    go_enter Try.func18, Try.ntmps18
    go_wp2_with fail
    refine (HIS.out _).mono ?_
    rintro e w0 ⟨rfl, rfl⟩
    go_wp2
    go_ret2
    exact ⟨none, 0, rfl, OwnB.nil _, HM0.out, fun k hk => hk.elim, Nat.zero_le _⟩

end Go.Proofs.Ytanknjpcgceccaa
