/- XdrWrites, XdrRows: the walks. -/
import Derived.Test.YtafnialikielkaaWriter
import Derived.Lib.SlBytesConst
import Derived.Deep.RegionHeld3
import Derived.Deep.DeepCutAuto
namespace Go.Proofs.Ytafnialikielkaa
open Go.RowKit

theorem abcde : row [97, 98, 99, 100, 101] = [0, 0, 0, 5, 97, 98, 99, 100, 101, 0, 0, 0] := by decide +kernel

set_option maxHeartbeats 400000 in
theorem known_any (w : World) :
    Calls Try.prog 8 #[] w fun e w' => e = .returned (.bool true) ∧ Mods (fun _ => False) w w' := by
  have kc := fun (w : World) (C : Array Value) (n c : Nat) => Lib.run_convert_bytes_const (P := Try.prog) w 27 5 C n c Try.underlying27 Try.underlying5
  go_enter Try.func8, Try.ntmps8
  go_wp2_with (go_at_call 9; refine (NewWriter_any _).mono ?_; rintro e w1 ⟨p, rfl, hp, hw1, hm1⟩)
  refine (Bytes_any p none 0 [] _ _ [(some ⟨w1.heap.size, 0, none⟩, 5, [97, 98, 99, 100, 101])] _ ((hw1.alloc _).alloc _) 5 (by simp) (by simp) ?h1 ?h2 ?h3).mono ?_
  case h1 => exact Sl.one' _ _ _ (by simp)
  case h2 =>
    intro k hk
    have hk' : w1.heap.size + 1 = k := by simpa [blk] using hk.2
    have := hw1.lt
    exact ⟨by omega, fun h => h⟩
  case h3 =>
    intro s hs
    simp only [List.mem_singleton] at hs
    subst hs
    refine ⟨SlB.alloc ?_ _, fun k hk => ?_⟩
    · refine ⟨rfl, Nat.le_refl 5, by simp, fun j u hu => ⟨w1.heap.size, 0, rfl, ?_⟩⟩
      have hb : (w1.alloc (.cells #[.int .u8 97, .int .u8 98, .int .u8 99, .int .u8 100, .int .u8 101] 5 (5, 6))).heap[w1.heap.size]? = some (.cells #[.int .u8 97, .int .u8 98, .int .u8 99, .int .u8 100, .int .u8 101] 5 (5, 6)) := heap_alloc_new w1 _
      unfold World.cell?
      rw [hb, ← hu]
      simp [B]
    · have hk' : w1.heap.size = k := hk.2
      have := hw1.lt
      exact ⟨by simp; omega, by omega, fun h => h⟩
  rintro e w2 ⟨ao2, cap2, rfl, hw2, hg2⟩
  have hd := Done_any p ao2 cap2 _ w2 hw2 (by simp; have := row_length [97, 98, 99, 100, 101]; simp at this; omega)
  simp only [List.nil_append, List.flatMap_cons, List.flatMap_nil, List.append_nil, abcde] at hd
  have hm2 : Mods (fun _ => False) w w2 := by
    refine hm1.step (G := FP p none) ?_ ?_
    · exact ((Mods.alloc _ _ _).trans (Mods.alloc _ _ _)).trans hg2.mods
    · intro k hk h
      rcases h with h | h
      · omega
      · exact h
  go_wp2_with fail
  refine hd.mono ?_
  rintro e w3 ⟨ao3, cap3, rfl, ho3, hg3⟩
  have hcv : (convert 27 9 (.slice ao3 12 cap3)).run Try.prog w3 = .ok (.string (str [0, 0, 0, 5, 97, 98, 99, 100, 101, 0, 0, 0])) w3 := run_conv ho3.sl
  have hst : Hid (str [0, 0, 0, 5, 97, 98, 99, 100, 101, 0, 0, 0] = ⟨#[0, 0, 0, 5, 97, 98, 99, 100, 101, 0, 0, 0]⟩) := rfl
  rw [hst.out] at hcv
  go_wp2
  go_ret
  exact ⟨rfl, hm2.step hg3.mods fun _ _ h => h⟩

/-- Two writers, new since block B0, apart from one another. -/
structure WW (B0 : Nat) (w : World) (p : Nat) (ao : Option Addr) (cap : Nat) (q : Nat) (bo : Option Addr) (bcap : Nat) (xs ys : List UInt8) : Prop where
  one : WR w p ao cap xs
  two : WR w q bo bcap ys
  ne : p ≠ q
  aq : ¬ blk ao q
  bp : ¬ blk bo p
  ab : ∀ k, blk ao k → ¬ blk bo k
  lp : B0 ≤ p
  lq : B0 ≤ q
  la : ∀ k, blk ao k → B0 ≤ k
  lb : ∀ k, blk bo k → B0 ≤ k
  sz : B0 ≤ w.heap.size

theorem WW.symm {B0 : Nat} {w : World} {p : Nat} {ao : Option Addr} {cap : Nat} {q : Nat} {bo : Option Addr} {bcap : Nat} {xs ys : List UInt8} (h : WW B0 w p ao cap q bo bcap xs ys) : WW B0 w q bo bcap p ao cap ys xs :=
  ⟨h.two, h.one, h.ne.symm, h.bp, h.aq, fun k hk hb => h.ab k hb hk, h.lq, h.lp, h.lb, h.la, h.sz⟩
theorem WW.alloc {B0 : Nat} {w : World} {p : Nat} {ao : Option Addr} {cap : Nat} {q : Nat} {bo : Option Addr} {bcap : Nat} {xs ys : List UInt8} (h : WW B0 w p ao cap q bo bcap xs ys) (o : Obj) : WW B0 (w.alloc o) p ao cap q bo bcap xs ys :=
  ⟨h.one.alloc o, h.two.alloc o, h.ne, h.aq, h.bp, h.ab, h.lp, h.lq, h.la, h.lb, by have := h.sz; simp; omega⟩
theorem WW.new {B0 : Nat} {w w' : World} {p : Nat} {ao : Option Addr} {cap : Nat} {q : Nat} {bo : Option Addr} {bcap : Nat} {xs ys : List UInt8} (h : WW B0 w p ao cap q bo bcap xs ys) (hm : Mods (fun _ => False) w w') : WW B0 w' p ao cap q bo bcap xs ys :=
  ⟨h.one.keep hm (fun h => h) fun _ _ h => h, h.two.keep hm (fun h => h) fun _ _ h => h, h.ne, h.aq, h.bp, h.ab, h.lp, h.lq, h.la, h.lb, Nat.le_trans h.sz hm.size⟩
/-- The first writes. -/
theorem WW.first {B0 : Nat} {w w' : World} {p : Nat} {ao : Option Addr} {cap : Nat} {q : Nat} {bo : Option Addr} {bcap : Nat} {xs ys : List UInt8} (h : WW B0 w p ao cap q bo bcap xs ys)
    {ao' : Option Addr} {cap' : Nat} {xs' : List UInt8} (hw : WR w' p ao' cap' xs') (hg : WGrew w p ao w' ao') : WW B0 w' p ao' cap' q bo bcap xs' ys ∧ Mods (fun k => B0 ≤ k) w w' := by
  have hF : ∀ k, FP p ao k → B0 ≤ k := by
    intro k hk
    rcases hk with rfl | hk
    · exact h.lp
    · exact h.la k hk
  have hq : ¬ FP p ao q := fun hf => by
    rcases hf with hf | hf
    · exact h.ne hf.symm
    · exact h.aq hf
  have hb : ∀ k, blk bo k → ¬ FP p ao k := fun k hk hf => by
    rcases hf with rfl | hf
    · exact h.bp hk
    · exact h.ab k hf hk
  refine ⟨⟨hw, h.two.keep hg.mods hq hb, h.ne, fun hk => ?_, h.bp, fun k hk hbk => ?_, h.lp, h.lq, fun k hk => ?_, h.lb, Nat.le_trans h.sz hg.mods.size⟩, hg.mods.mono fun k _ => hF k⟩
  · rcases hg.fresh q hk with h1 | h1
    · exact h.aq h1
    · have := h.two.lt; omega
  · rcases hg.fresh k hk with h1 | h1
    · exact h.ab k h1 hbk
    · have := h.two.own.lt k hbk; omega
  · rcases hg.fresh k hk with h1 | h1
    · exact h.la k h1
    · exact Nat.le_trans h.sz h1

theorem apart_at {w : World} {p : Nat} {ao : Option Addr} {cap : Nat} {bs : List UInt8} (h : WR w p ao cap bs) {b n : Nat} (hb : w.heap.size ≤ b) : ∀ k, rb (some ⟨b, 0, none⟩) n k → k ≠ p ∧ ¬ blk ao k := by
  intro k hk
  have hk' : b = k := hk.2
  subst hk'
  exact ⟨by have := h.lt; omega, fun h' => by have := h.own.lt _ h'; omega⟩
theorem notFP {w : World} {p : Nat} {ao : Option Addr} {cap : Nat} {bs : List UInt8} (h : WR w p ao cap bs) {b : Nat} (hb : w.heap.size ≤ b) : ¬ FP p ao b := by
  rintro (h' | h')
  · have := h.lt; omega
  · have := h.own.lt _ h'; omega

theorem Sl.below {w w' : World} {size : Nat} {lo : Option Addr} {n lc : Nat} {xs : List Value} (h : Sl w size lo n lc xs) {B0 : Nat} (hd : ∀ k, rb lo n k → k < B0) (hm : Mods (fun k => B0 ≤ k) w w') : Sl w' size lo n lc xs :=
  h.keep hm fun k hk hf => by have := hd k hk; omega
theorem SlB.below {w w' : World} {lo : Option Addr} {lc : Nat} {xs : List UInt8} (h : SlB w lo lc xs) {B0 : Nat} (hd : ∀ k, rb lo xs.length k → k < B0) (hm : Mods (fun k => B0 ≤ k) w w') : SlB w' lo lc xs := Sl.below h hd hm

/-- What an item is written as. -/
def itemBytes (kind V : Int) (On : Bool) (bs : List UInt8) : List UInt8 :=
  if kind = 1 then be 4 (V % 4294967296) else if kind = 2 then be 8 V else if kind = 3 then be 4 (boolNum On) else if kind = 4 then row bs else padded bs

def WWPost (B0 : Nat) (w : World) (p q : Nat) (xs ys : List UInt8) (e : Ending) (w' : World) : Prop :=
  ∃ ao' cap' bo' bcap', e = .returned (.tuple #[]) ∧ WW B0 w' p ao' cap' q bo' bcap' xs ys ∧ Mods (fun k => B0 ≤ k) w w'

set_option maxHeartbeats 1000000 in
theorem write_any (B0 : Nat) (w : World) (p : Nat) (ao : Option Addr) (cap : Nat) (q : Nat) (bo : Option Addr) (bcap : Nat) (xs ys : List UInt8) (h : WW B0 w p ao cap q bo bcap xs ys)
    (kind N V : Int) (On : Bool) (io : Option Addr) (ic : Nat) (bs : List UInt8) (hi : SlB w io ic bs) (hio : ∀ k, rb io bs.length k → k < B0) (hV : 0 ≤ V ∧ V < 18446744073709551616) (hb : bs.length ≤ 3000) (hx : xs.length ≤ 900000) (hy : ys.length ≤ 900000) :
    Calls Try.prog 10 #[.pointer (some ⟨p, 0, none⟩), .pointer (some ⟨q, 0, none⟩), .agg #[.int .i64 kind, .int .i64 N, .int .u64 V, .bool On, .slice io bs.length ic]] w
      (WWPost B0 w p q (xs ++ itemBytes kind V On bs) (ys ++ itemBytes kind V On bs)) := by
  have H := hid h; have HI := hid hi; have HIO := hid hio; have HV := hid hV; clear h hi hio hV
  have cases5 : kind = 1 ∨ kind = 2 ∨ kind = 3 ∨ kind = 4 ∨ (kind ≠ 1 ∧ kind ≠ 2 ∧ kind ≠ 3 ∧ kind ≠ 4) := by omega
  rcases cases5 with rfl | rfl | rfl | rfl | ⟨n1, n2, n3, n4⟩
  · have HA := hid (((H.out.alloc (.cells #[.int .i64 1, .int .i64 N, .int .u64 V, .bool On, .slice io bs.length ic] 32)).alloc (.cells #[.int .u32 (V % 4294967296)] 44)))
    have HIA := hid ((HI.out.alloc (.cells #[.int .i64 1, .int .i64 N, .int .u64 V, .bool On, .slice io bs.length ic] 32)).alloc (.cells #[.int .u32 (V % 4294967296)] 44))
    go_enter Try.func10, Try.ntmps10
    go_wp2_with fail
    refine (U32_any p ao cap xs _ _ [_] _ HA.out.one (by simp; omega) (by simp; omega) (Sl.one' _ _ _ (by simp)) (apart_at H.out.one (by simp))).mono ?_
    rintro e w1 ⟨ao1, cap1, rfl, hw1, hg1⟩
    have hbox : w1.cell? ⟨w.heap.size, 2, none⟩ = some (.int .u64 V) := hg1.mods.cell (by rw [World.cell?_alloc_lt _ _ _ (by simp)]; simp) (notFP H.out.one (Nat.le_refl _))
    obtain ⟨xs1, hxs1⟩ : ∃ c, c = xs ++ bes 4 [V % 4294967296] := ⟨_, rfl⟩
    have H1 := hid (HA.out.first hw1 hg1)
    have HI1 := hid (HIA.out.below HIO.out H1.out.2)
    rw [← hxs1] at H1
    have hxs2 : Hid (xs1 = xs ++ itemBytes 1 V On bs) := by rw [hxs1]; simp [itemBytes, bes_one, Hid]
    have hm1 : Hid (Mods (fun k => B0 ≤ k) w w1) := ((Mods.alloc _ _ _).trans (Mods.alloc _ _ _)).trans H1.out.2
    clear hxs1 hw1 hg1
    go_wp2_with fail
    refine (RU32_any q bo bcap ys _ w1 H1.out.1.two (by omega) (by omega)).mono ?_
    rintro e w2 ⟨bo2, bcap2, rfl, hw2, hg2⟩
    have H2 := hid (H1.out.1.symm.first hw2 hg2)
    have hm2 := hid (hm1.out.trans H2.out.2)
    have hit : Hid (ys ++ be 4 (V % 4294967296) = ys ++ itemBytes 1 V On bs) := by simp [itemBytes, Hid]
    clear hw2 hg2
    go_wp2
    go_end0
    obtain rfl := hxs2.out
    exact ⟨ao1, cap1, bo2, bcap2, rfl, hit.out ▸ H2.out.1.symm, hm2.out⟩
  · have HA := hid (((H.out.alloc (.cells #[.int .i64 2, .int .i64 N, .int .u64 V, .bool On, .slice io bs.length ic] 32)).alloc (.cells #[.int .u64 V] 30)))
    have HIA := hid ((HI.out.alloc (.cells #[.int .i64 2, .int .i64 N, .int .u64 V, .bool On, .slice io bs.length ic] 32)).alloc (.cells #[.int .u64 V] 30))
    go_enter Try.func10, Try.ntmps10
    go_wp2_with fail
    refine (U64_any p ao cap xs _ _ [_] _ HA.out.one (by omega) (by simp; exact HV.out) (Sl.one' _ _ _ (by simp)) (by simp)).mono ?_
    rintro e w1 ⟨ao1, cap1, rfl, hw1, hg1⟩
    have hbox : w1.cell? ⟨w.heap.size, 2, none⟩ = some (.int .u64 V) := hg1.mods.cell (by rw [World.cell?_alloc_lt _ _ _ (by simp)]; simp) (notFP H.out.one (Nat.le_refl _))
    obtain ⟨xs1, hxs1⟩ : ∃ c, c = xs ++ bes 8 [V] := ⟨_, rfl⟩
    have H1 := hid (HA.out.first hw1 hg1)
    have HI1 := hid (HIA.out.below HIO.out H1.out.2)
    rw [← hxs1] at H1
    have hxs2 : Hid (xs1 = xs ++ itemBytes 2 V On bs) := by rw [hxs1]; simp [itemBytes, bes_one, Hid]
    have hm1 : Hid (Mods (fun k => B0 ≤ k) w w1) := ((Mods.alloc _ _ _).trans (Mods.alloc _ _ _)).trans H1.out.2
    clear hxs1 hw1 hg1
    go_wp2_with fail
    refine (RU64_any q bo bcap ys _ w1 H1.out.1.two (by omega) HV.out).mono ?_
    rintro e w2 ⟨bo2, bcap2, rfl, hw2, hg2⟩
    have H2 := hid (H1.out.1.symm.first hw2 hg2)
    have hm2 := hid (hm1.out.trans H2.out.2)
    have hit : Hid (ys ++ be 8 V = ys ++ itemBytes 2 V On bs) := by simp [itemBytes, Hid]
    clear hw2 hg2
    go_wp2
    go_end0
    obtain rfl := hxs2.out
    exact ⟨ao1, cap1, bo2, bcap2, rfl, hit.out ▸ H2.out.1.symm, hm2.out⟩
  · have HA := hid (((H.out.alloc (.cells #[.int .i64 3, .int .i64 N, .int .u64 V, .bool On, .slice io bs.length ic] 32)).alloc (.cells #[.bool On] 4)))
    have HIA := hid ((HI.out.alloc (.cells #[.int .i64 3, .int .i64 N, .int .u64 V, .bool On, .slice io bs.length ic] 32)).alloc (.cells #[.bool On] 4))
    go_enter Try.func10, Try.ntmps10
    go_wp2_with fail
    refine (Bool_any p ao cap xs _ _ [_] _ HA.out.one (by simp; omega) (Sl.one' _ _ _ (by simp)) (apart_at H.out.one (by simp))).mono ?_
    rintro e w1 ⟨ao1, cap1, rfl, hw1, hg1⟩
    have hbox : w1.cell? ⟨w.heap.size, 3, none⟩ = some (.bool On) := hg1.mods.cell (by rw [World.cell?_alloc_lt _ _ _ (by simp)]; simp) (notFP H.out.one (Nat.le_refl _))
    obtain ⟨xs1, hxs1⟩ : ∃ c, c = xs ++ bes 4 ([On].map boolNum) := ⟨_, rfl⟩
    have H1 := hid (HA.out.first hw1 hg1)
    have HI1 := hid (HIA.out.below HIO.out H1.out.2)
    rw [← hxs1] at H1
    have hxs2 : Hid (xs1 = xs ++ itemBytes 3 V On bs) := by rw [hxs1]; simp [itemBytes, bes_one, Hid]
    have hm1 : Hid (Mods (fun k => B0 ≤ k) w w1) := ((Mods.alloc _ _ _).trans (Mods.alloc _ _ _)).trans H1.out.2
    clear hxs1 hw1 hg1
    go_wp2_with fail
    refine (RBool_any q bo bcap ys _ w1 H1.out.1.two (by omega)).mono ?_
    rintro e w2 ⟨bo2, bcap2, rfl, hw2, hg2⟩
    have H2 := hid (H1.out.1.symm.first hw2 hg2)
    have hm2 := hid (hm1.out.trans H2.out.2)
    have hit : Hid (ys ++ be 4 (boolNum On) = ys ++ itemBytes 3 V On bs) := by simp [itemBytes, Hid]
    clear hw2 hg2
    go_wp2
    go_end0
    obtain rfl := hxs2.out
    exact ⟨ao1, cap1, bo2, bcap2, rfl, hit.out ▸ H2.out.1.symm, hm2.out⟩
  · have HA := hid (((H.out.alloc (.cells #[.int .i64 4, .int .i64 N, .int .u64 V, .bool On, .slice io bs.length ic] 32)).alloc (.cells #[.slice io bs.length ic] 27)))
    have HIA := hid ((HI.out.alloc (.cells #[.int .i64 4, .int .i64 N, .int .u64 V, .bool On, .slice io bs.length ic] 32)).alloc (.cells #[.slice io bs.length ic] 27))
    go_enter Try.func10, Try.ntmps10
    go_wp2_with fail
    refine (Bytes_any p ao cap xs _ _ [(io, ic, bs)] _ HA.out.one 3000 (by simpa using hb) (by simp; omega) (Sl.one' _ _ _ (by simp)) (apart_at H.out.one (by simp)) (by intro s hs; simp only [List.mem_singleton] at hs; subst hs; exact ⟨HIA.out, fun k hk => ⟨by have := HIO.out k hk; have := H.out.sz; simp; omega, fun h => by have := HIO.out k hk; have := H.out.lp; omega, fun h => by have := HIO.out k hk; have := H.out.la k h; omega⟩⟩)).mono ?_
    rintro e w1 ⟨ao1, cap1, rfl, hw1, hg1⟩
    have hbox : w1.cell? ⟨w.heap.size, 4, none⟩ = some (.slice io bs.length ic) := hg1.mods.cell (by rw [World.cell?_alloc_lt _ _ _ (by simp)]; simp) (notFP H.out.one (Nat.le_refl _))
    obtain ⟨xs1, hxs1⟩ : ∃ c, c = xs ++ [((io, ic, bs) : BS)].flatMap (fun s => row s.2.2) := ⟨_, rfl⟩
    have H1 := hid (HA.out.first hw1 hg1)
    have HI1 := hid (HIA.out.below HIO.out H1.out.2)
    rw [← hxs1] at H1
    have hxs2 : Hid (xs1 = xs ++ itemBytes 4 V On bs) := by rw [hxs1]; simp [itemBytes, Hid]
    have hm1 : Hid (Mods (fun k => B0 ≤ k) w w1) := ((Mods.alloc _ _ _).trans (Mods.alloc _ _ _)).trans H1.out.2
    clear hxs1 hw1 hg1
    go_wp2_with fail
    refine (RBytes_any q bo bcap ys io ic bs w1 H1.out.1.two (by omega) HI1.out (fun k hk => ⟨fun h => by have := HIO.out k hk; have := H.out.lq; omega, fun h => by have := HIO.out k hk; have := H.out.lb k h; omega⟩)).mono ?_
    rintro e w2 ⟨bo2, bcap2, rfl, hw2, hg2⟩
    have H2 := hid (H1.out.1.symm.first hw2 hg2)
    have hm2 := hid (hm1.out.trans H2.out.2)
    have hit : Hid (ys ++ row bs = ys ++ itemBytes 4 V On bs) := by simp [itemBytes, Hid]
    clear hw2 hg2
    go_wp2
    go_end0
    obtain rfl := hxs2.out
    exact ⟨ao1, cap1, bo2, bcap2, rfl, hit.out ▸ H2.out.1.symm, hm2.out⟩
  · have HA := hid (((H.out.alloc (.cells #[.int .i64 kind, .int .i64 N, .int .u64 V, .bool On, .slice io bs.length ic] 32)).alloc (.cells #[.slice io bs.length ic] 27)))
    have HIA := hid ((HI.out.alloc (.cells #[.int .i64 kind, .int .i64 N, .int .u64 V, .bool On, .slice io bs.length ic] 32)).alloc (.cells #[.slice io bs.length ic] 27))
    have m1 : (kind == 1) = false := by simpa using n1
    have m2 : (kind == 2) = false := by simpa using n2
    have m3 : (kind == 3) = false := by simpa using n3
    have m4 : (kind == 4) = false := by simpa using n4
    go_enter Try.func10, Try.ntmps10
    go_wp2_with fail
    refine (Fixed_any p ao cap xs _ _ [(io, ic, bs)] _ HA.out.one 3000 (by simpa using hb) (by simp; omega) (Sl.one' _ _ _ (by simp)) (apart_at H.out.one (by simp)) (by intro s hs; simp only [List.mem_singleton] at hs; subst hs; exact ⟨HIA.out, fun k hk => ⟨fun h => by have := HIO.out k hk; have := H.out.lp; omega, fun h => by have := HIO.out k hk; have := H.out.la k h; omega⟩⟩)).mono ?_
    rintro e w1 ⟨ao1, cap1, rfl, hw1, hg1⟩
    have hbox : w1.cell? ⟨w.heap.size, 4, none⟩ = some (.slice io bs.length ic) := hg1.mods.cell (by rw [World.cell?_alloc_lt _ _ _ (by simp)]; simp) (notFP H.out.one (Nat.le_refl _))
    obtain ⟨xs1, hxs1⟩ : ∃ c, c = xs ++ [((io, ic, bs) : BS)].flatMap (fun s => padded s.2.2) := ⟨_, rfl⟩
    have H1 := hid (HA.out.first hw1 hg1)
    have HI1 := hid (HIA.out.below HIO.out H1.out.2)
    rw [← hxs1] at H1
    have hxs2 : Hid (xs1 = xs ++ itemBytes kind V On bs) := by rw [hxs1]; simp [itemBytes, Hid, n1, n2, n3, n4]
    have hm1 : Hid (Mods (fun k => B0 ≤ k) w w1) := ((Mods.alloc _ _ _).trans (Mods.alloc _ _ _)).trans H1.out.2
    clear hxs1 hw1 hg1
    go_wp2_with fail
    refine (RFixed_any q bo bcap ys io ic bs w1 H1.out.1.two (by omega) HI1.out).mono ?_
    rintro e w2 ⟨bo2, bcap2, rfl, hw2, hg2⟩
    have H2 := hid (H1.out.1.symm.first hw2 hg2)
    have hm2 := hid (hm1.out.trans H2.out.2)
    have hit : Hid (ys ++ padded bs = ys ++ itemBytes kind V On bs) := by simp [itemBytes, Hid, n1, n2, n3, n4]
    clear hw2 hg2
    go_wp2
    go_end0
    obtain rfl := hxs2.out
    exact ⟨ao1, cap1, bo2, bcap2, rfl, hit.out ▸ H2.out.1.symm, hm2.out⟩

end Go.Proofs.Ytafnialikielkaa
