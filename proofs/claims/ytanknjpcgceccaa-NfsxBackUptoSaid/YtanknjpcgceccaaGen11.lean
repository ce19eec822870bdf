/- Arguments as cells; nfsx.WriteArgs. (Printed by wip/tools/gen_gen11.py.) -/
import Derived.Test.YtanknjpcgceccaaGen10
namespace Go.Proofs.Ytanknjpcgceccaa
open Go.RowKit

/-- The arguments that lie in cells. -/
def argsOf (A : Cells) (ds : List UInt8) : ArgsV := ⟨sv (A 0), sv (A 1), sv (A 2), sv (A 3), sv (A 4), ⟨bv (A 5), bv (A 6), bv (A 7), bv (A 8), iv (A 9), iv (A 10), iv (A 11), iv (A 12), iv (A 13), iv (A 14), ⟨iv (A 15), iv (A 16)⟩, ⟨iv (A 17), iv (A 18)⟩⟩, bv (A 19), ⟨iv (A 20), iv (A 21)⟩, iv (A 22), iv (A 23), iv (A 24), iv (A 25), iv (A 26), iv (A 27), ds, iv (A 29), iv (A 30), iv (A 31), iv (A 32), iv (A 33), iv (A 34), iv (A 35)⟩
/-- No string, no data too long. -/
def ArgsV.few (a : ArgsV) : Prop := a.file.length ≤ 2000000 ∧ a.to.length ≤ 2000000 ∧ a.name.length ≤ 2000000 ∧ a.toName.length ≤ 2000000 ∧ a.path.length ≤ 2000000 ∧ a.data.length ≤ 2000000
def cellsOf (a : ArgsV) (dv : Value) : Cells := fun j => (a.cells dv)[j]?
theorem HasTy.u32v {x : Option Value} (h : HasTy .u32 x) : x = some (.int .u32 (Go.Proofs.Ytanknjpcgceccaa.iv x)) := by obtain ⟨b, rfl, _⟩ := h; rfl
theorem HasTy.u64v {x : Option Value} (h : HasTy .u64 x) : x = some (.int .u64 (Go.Proofs.Ytanknjpcgceccaa.iv x)) := by obtain ⟨b, rfl, _⟩ := h; rfl
theorem cells_argsOf {dv : Value} {A : Cells} (h : Typed (argLay dv) A) (ds : List UInt8) (j : Nat) (hj : j < 36) : A j = ((argsOf A ds).cells dv)[j]? := by
  match j, hj with
  | 0, _ => exact (h 0 _ rfl).sv.1
  | 1, _ => exact (h 1 _ rfl).sv.1
  | 2, _ => exact (h 2 _ rfl).sv.1
  | 3, _ => exact (h 3 _ rfl).sv.1
  | 4, _ => exact (h 4 _ rfl).sv.1
  | 5, _ => exact (h 5 _ rfl).bv
  | 6, _ => exact (h 6 _ rfl).bv
  | 7, _ => exact (h 7 _ rfl).bv
  | 8, _ => exact (h 8 _ rfl).bv
  | 9, _ => exact (h 9 _ rfl).iv
  | 10, _ => exact (h 10 _ rfl).u32v
  | 11, _ => exact (h 11 _ rfl).u32v
  | 12, _ => exact (h 12 _ rfl).u64v
  | 13, _ => exact (h 13 _ rfl).iv
  | 14, _ => exact (h 14 _ rfl).iv
  | 15, _ => exact (h 15 _ rfl).u32v
  | 16, _ => exact (h 16 _ rfl).u32v
  | 17, _ => exact (h 17 _ rfl).u32v
  | 18, _ => exact (h 18 _ rfl).u32v
  | 19, _ => exact (h 19 _ rfl).bv
  | 20, _ => exact (h 20 _ rfl).u32v
  | 21, _ => exact (h 21 _ rfl).u32v
  | 22, _ => exact (h 22 _ rfl).u32v
  | 23, _ => exact (h 23 _ rfl).u64v
  | 24, _ => exact (h 24 _ rfl).u32v
  | 25, _ => exact (h 25 _ rfl).iv
  | 26, _ => exact (h 26 _ rfl).iv
  | 27, _ => exact (h 27 _ rfl).iv
  | 28, _ => exact (h 28 _ rfl)
  | 29, _ => exact (h 29 _ rfl).u64v
  | 30, _ => exact (h 30 _ rfl).u64v
  | 31, _ => exact (h 31 _ rfl).u64v
  | 32, _ => exact (h 32 _ rfl).u32v
  | 33, _ => exact (h 33 _ rfl).u32v
  | 34, _ => exact (h 34 _ rfl).u32v
  | 35, _ => exact (h 35 _ rfl).u32v
  | j + 36, h => exact absurd h (by omega)
theorem argsOf_cells (a : ArgsV) (dv : Value) (ds : List UInt8) : argsOf (cellsOf a dv) ds = { a with data := ds } := by
  obtain ⟨f, t, n, tn, p, ⟨s0, s1, s2, s3, s4, s5, s6, s7, s8, s9, ⟨s10, s11⟩, ⟨s12, s13⟩⟩, g, ⟨g0, g1⟩, x0, x1, x2, x3, x4, x5, d, y0, y1, y2, y3, y4, y5, y6⟩ := a
  simp only [argsOf, cellsOf, ArgsV.cells, SattrV.cells, TimeV.cells, List.cons_append, List.nil_append, List.getElem?_cons_succ, List.getElem?_cons_zero, sv_str, bv, iv]
theorem typed_cells {a : ArgsV} (hg : a.good) (hf : a.few) (dv : Value) : Typed (argLay dv) (cellsOf a dv) := by
  obtain ⟨⟨m1, m2, m3, m4, m5, m6, ⟨m7, m8⟩, m9, m10⟩, ⟨m11, m12⟩, m13, m14, m15, m16, m17, m18, m19, m20, m21, m22, m23, m24, m25⟩ := hg
  obtain ⟨f0, f1, f2, f3, f4, _⟩ := hf
  intro j t hj
  have hlt : j < 36 := (List.getElem?_eq_some_iff.1 hj).1
  match j, hlt with
  | 0, _ => obtain rfl := Option.some.inj hj; exact ⟨_, rfl, f0⟩
  | 1, _ => obtain rfl := Option.some.inj hj; exact ⟨_, rfl, f1⟩
  | 2, _ => obtain rfl := Option.some.inj hj; exact ⟨_, rfl, f2⟩
  | 3, _ => obtain rfl := Option.some.inj hj; exact ⟨_, rfl, f3⟩
  | 4, _ => obtain rfl := Option.some.inj hj; exact ⟨_, rfl, f4⟩
  | 5, _ => obtain rfl := Option.some.inj hj; exact ⟨_, rfl⟩
  | 6, _ => obtain rfl := Option.some.inj hj; exact ⟨_, rfl⟩
  | 7, _ => obtain rfl := Option.some.inj hj; exact ⟨_, rfl⟩
  | 8, _ => obtain rfl := Option.some.inj hj; exact ⟨_, rfl⟩
  | 9, _ => obtain rfl := Option.some.inj hj; exact ⟨_, rfl⟩
  | 10, _ => obtain rfl := Option.some.inj hj; exact ⟨_, rfl, m2.1, m2.2⟩
  | 11, _ => obtain rfl := Option.some.inj hj; exact ⟨_, rfl, m3.1, m3.2⟩
  | 12, _ => obtain rfl := Option.some.inj hj; exact ⟨_, rfl, m4.1, m4.2⟩
  | 13, _ => obtain rfl := Option.some.inj hj; exact ⟨_, rfl⟩
  | 14, _ => obtain rfl := Option.some.inj hj; exact ⟨_, rfl⟩
  | 15, _ => obtain rfl := Option.some.inj hj; exact ⟨_, rfl, m7.1, m7.2⟩
  | 16, _ => obtain rfl := Option.some.inj hj; exact ⟨_, rfl, m8.1, m8.2⟩
  | 17, _ => obtain rfl := Option.some.inj hj; exact ⟨_, rfl, m9.1, m9.2⟩
  | 18, _ => obtain rfl := Option.some.inj hj; exact ⟨_, rfl, m10.1, m10.2⟩
  | 19, _ => obtain rfl := Option.some.inj hj; exact ⟨_, rfl⟩
  | 20, _ => obtain rfl := Option.some.inj hj; exact ⟨_, rfl, m11.1, m11.2⟩
  | 21, _ => obtain rfl := Option.some.inj hj; exact ⟨_, rfl, m12.1, m12.2⟩
  | 22, _ => obtain rfl := Option.some.inj hj; exact ⟨_, rfl, m13.1, m13.2⟩
  | 23, _ => obtain rfl := Option.some.inj hj; exact ⟨_, rfl, m14.1, m14.2⟩
  | 24, _ => obtain rfl := Option.some.inj hj; exact ⟨_, rfl, m15.1, m15.2⟩
  | 25, _ => obtain rfl := Option.some.inj hj; exact ⟨_, rfl⟩
  | 26, _ => obtain rfl := Option.some.inj hj; exact ⟨_, rfl⟩
  | 27, _ => obtain rfl := Option.some.inj hj; exact ⟨_, rfl⟩
  | 28, _ => obtain rfl := Option.some.inj hj; exact rfl
  | 29, _ => obtain rfl := Option.some.inj hj; exact ⟨_, rfl, m19.1, m19.2⟩
  | 30, _ => obtain rfl := Option.some.inj hj; exact ⟨_, rfl, m20.1, m20.2⟩
  | 31, _ => obtain rfl := Option.some.inj hj; exact ⟨_, rfl, m21.1, m21.2⟩
  | 32, _ => obtain rfl := Option.some.inj hj; exact ⟨_, rfl, m22.1, m22.2⟩
  | 33, _ => obtain rfl := Option.some.inj hj; exact ⟨_, rfl, m23.1, m23.2⟩
  | 34, _ => obtain rfl := Option.some.inj hj; exact ⟨_, rfl, m24.1, m24.2⟩
  | 35, _ => obtain rfl := Option.some.inj hj; exact ⟨_, rfl, m25.1, m25.2⟩
  | j + 36, h => exact absurd h (by omega)

/-- What WriteArgs gives. -/
def wargs (p : Int) (a : ArgsV) (dv : Value) : List UInt8 × Int :=
  if there p then (match (pAll p.toNat (.wr false [], cellsOf a dv) a.data).1.1 with
    | .wr false out => (out, 0)
    | _ => ([], 33)) else ([], 36)

set_option maxRecDepth 100000 in
set_option maxHeartbeats 2000000 in
theorem WriteArgs_typ (p : Int) (a : ArgsV) (xo : Option Addr) (xc : Nat) (w : World) (hs : SlB w xo xc a.data) (hb : ∀ k, rb xo a.data.length k → k < w.heap.size) (ht0 : Typed (argLay (.slice xo a.data.length xc)) (cellsOf a (.slice xo a.data.length xc))) (hd : a.data.length ≤ 2000000) :
    Calls Try.prog 12 #[.int .i64 p, .agg (a.cells (.slice xo a.data.length xc)).toArray] w fun e w' => ∃ yo yc, e = .returned (.tuple #[.slice yo (wargs p a (.slice xo a.data.length xc)).1.length yc, .int .i64 (wargs p a (.slice xo a.data.length xc)).2]) ∧
      OwnB w' yo yc (wargs p a (.slice xo a.data.length xc)).1 ∧ Mods (fun _ => False) w w' ∧ (∀ k, blk yo k → w.heap.size ≤ k) ∧ (wargs p a (.slice xo a.data.length xc)).1.length ≤ 20000000 := by
  have HS := hid hs; have HB := hid hb; have HT := hid ht0; have HD := hid hd
  clear hs hb ht0 hd
  by_cases ht : there p = true
  · obtain ⟨k, rfl, hk⟩ := there_nat ht
    have hw : wargs (k : Int) a (.slice xo a.data.length xc) = (match (pAll k (.wr false [], cellsOf a (.slice xo a.data.length xc)) a.data).1.1 with
      | .wr false out => (out, 0)
      | _ => ([], 33)) := by simp only [wargs, ht, if_true, Int.toNat_natCast]
    have hlike := like_pAll k (.wr false [], cellsOf a (.slice xo a.data.length xc)) a.data
    rw [hw]
    have HIS := hid (fun w => is_any (k : Int) w)
    rw [ht] at HIS
    obtain ⟨A, hAe⟩ : ∃ A, A = (a.cells (.slice xo a.data.length xc)).toArray := ⟨_, rfl⟩
    rw [← hAe]
    have HA := hid hAe
    have hA1 : A[0]? = some (.string (str a.file)) := by rw [hAe]; rfl
    have HK := hid hk
    have HW := hlike
    clear hAe hk hlike hw ht
    generalize hq : pAll k (.wr false [], cellsOf a (.slice xo a.data.length xc)) a.data = q at HW
    obtain ⟨⟨s, A'⟩, ds'⟩ := q
    have HQ := hid hq
    clear hq
    cases s with
    | rd i po er bd => exact absurd HW.1 (by simp [St.isWr])
    | wr bad out =>
    clear HW
    go_enter Try.func12, Try.ntmps12
    go_wp2_with fail
    refine (HIS.out _).mono ?_
    rintro e w0 ⟨rfl, rfl⟩
    have hm0 : Mods (fun _ => False) w (w.alloc (.cells A 30)) := Mods.alloc _ _ _
    have hsz : (w.alloc (.cells A 30)).heap.size = w.heap.size + 1 := by simp
    have hbl : Blk (w.alloc (.cells A 30)) w.heap.size (cellsOf a (.slice xo a.data.length xc)) := (Blk.new w A _).congr (by funext j; rw [HA.out]; simp [cellsOf])
    generalize w.alloc (.cells A 30) = w0 at hm0 hsz hbl ⊢
    have HM0 := hid hm0; have HBL := hid hbl
    clear hm0 hbl hA1 HIS
    go_wp2_with fail
    refine (NewWriter_any _).mono ?_
    rintro e w1 ⟨pp, rfl, hp, hw1, hm1⟩
    have hlt1 := hw1.lt
    have hm2 : Mods (fun _ => False) w0 (w1.alloc (.cells #[.pointer none, .pointer (some ⟨pp, 0, none⟩), .bool false] 69)) := hm1.trans (Mods.alloc _ _ _)
    have hcw : CW (w1.alloc (.cells #[.pointer none, .pointer (some ⟨pp, 0, none⟩), .bool false] 69)) w1.heap.size pp none 0 false [] := ⟨heap_alloc_new w1 _, hw1.alloc _, by omega, fun h => h⟩
    have hsz1 := hm1.size
    have hnew : ∀ k, k < w0.heap.size → ¬ FC w1.heap.size pp none k := fun k hk hf => by
      rcases hf with e | e | e
      · omega
      · omega
      · exact e
    have hat : At (w1.alloc (.cells #[.pointer none, .pointer (some ⟨pp, 0, none⟩), .bool false] 69)) w1.heap.size (FC w1.heap.size pp none) w.heap.size (.wr false [], cellsOf a (.slice xo a.data.length xc)) :=
      ⟨⟨pp, none, 0, hcw, rfl⟩, HBL.out.keep hm2 (fun h => h), hnew _ (by omega)⟩
    have hsl : SlB (w1.alloc (.cells #[.pointer none, .pointer (some ⟨pp, 0, none⟩), .bool false] 69)) xo xc a.data := (HS.out.keep HM0.out fun _ _ h => h).keep hm2 fun _ _ h => h
    have hm02 : Mods (fun _ => False) w (w1.alloc (.cells #[.pointer none, .pointer (some ⟨pp, 0, none⟩), .bool false] 69)) := HM0.out.trans hm2
    have hargs := args_any k HK.out w1.heap.size (FC w1.heap.size pp none) w.heap.size _ xo xc a.data _ hat ⟨HT.out, Nat.zero_le _⟩ hsl (fun j hj => by
      have h1 := HB.out j hj
      exact ⟨Nat.lt_of_lt_of_le h1 hm02.size, hnew _ (by omega), by omega⟩) HD.out
    rw [HQ.out] at hargs
    have HARGS := hid hargs
    have HM02 := hid hm02
    have HNEW := hid hnew
    clear hcw hat hsl hm02 hargs hm2 hm1 hw1 hnew
    go_wp2_with fail
    refine HARGS.out.mono ?_
    rintro e w3 ⟨rfl, F3, yo, yc, q1, q2, q3, q4, q5, q6, q7, q8⟩
    obtain ⟨p3, ao3, cap3, hw3, _⟩ := q1.out
    have hm03 := hid (HM02.out.step q2.out.mods fun j hj hf => by
      rcases hf with hf | rfl
      · exact HNEW.out j (by omega) hf
      · omega)
    have hc1 := hw3.c1
    have hc2 := hw3.c2
    have HW3 := hid hw3
    have hol : out.length ≤ 20000000 := q8.out
    have HOL := hid hol
    clear HARGS q1 q2 q3 q4 q5 q6 q7 q8 hw3
    cases bad
    · go_wp2_with fail
      refine (Done_any p3 ao3 cap3 out _ HW3.out.wr hol).mono ?_
      rintro e w4 ⟨zo, zc, rfl, ho4, hg4⟩
      have hm04 := hid (hm03.out.trans (hg4.mods.mono fun _ _ h => h))
      have ho4' := hid ho4
      have hfr := hid (fun k hk => Nat.le_trans hm03.out.size ((hg4.fresh k hk).resolve_left fun h => h))
      clear ho4 hg4 hc1 hc2
      go_wp2
      go_ret2
      exact ⟨zo, zc, rfl, ho4'.out, hm04.out, hfr.out⟩
    · clear hc1
      go_wp2
      go_ret2
      exact ⟨none, 0, rfl, OwnB.nil _, hm03.out, fun k hk => hk.elim⟩
  · have ht' : there p = false := by simpa using ht
    have hw : wargs p a (.slice xo a.data.length xc) = ([], 36) := by simp [wargs, ht']
    rw [hw]
    have HIS := hid (fun w => is_any p w)
    rw [ht'] at HIS
    obtain ⟨A, hAe⟩ : ∃ A, A = (a.cells (.slice xo a.data.length xc)).toArray := ⟨_, rfl⟩
    rw [← hAe]
    clear ht ht' hw hAe
    go_enter Try.func12, Try.ntmps12
    go_wp2_with fail
    refine (HIS.out _).mono ?_
    rintro e w0 ⟨rfl, rfl⟩
    go_wp2
    go_ret2
    exact ⟨none, 0, rfl, OwnB.nil _, Mods.alloc _ _ _, fun k hk => hk.elim, Nat.zero_le _⟩

theorem WriteArgs_any (p : Int) (a : ArgsV) (xo : Option Addr) (xc : Nat) (w : World) (hs : SlB w xo xc a.data) (hb : ∀ k, rb xo a.data.length k → k < w.heap.size) (hg : a.good) (hf : a.few) :
    Calls Try.prog 12 #[.int .i64 p, .agg (a.cells (.slice xo a.data.length xc)).toArray] w fun e w' => ∃ yo yc, e = .returned (.tuple #[.slice yo (wargs p a (.slice xo a.data.length xc)).1.length yc, .int .i64 (wargs p a (.slice xo a.data.length xc)).2]) ∧
      OwnB w' yo yc (wargs p a (.slice xo a.data.length xc)).1 ∧ Mods (fun _ => False) w w' ∧ (∀ k, blk yo k → w.heap.size ≤ k) ∧ (wargs p a (.slice xo a.data.length xc)).1.length ≤ 20000000 :=
  WriteArgs_typ p a xo xc w hs hb (typed_cells hg hf _) hf.2.2.2.2.2

end Go.Proofs.Ytanknjpcgceccaa
