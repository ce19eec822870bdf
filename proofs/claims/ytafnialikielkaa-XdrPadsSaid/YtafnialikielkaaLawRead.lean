/- The law's read: both readers, one call each. (Printed by wip/tools/gen_read.py.) -/
import Derived.Test.YtafnialikielkaaRReader3
namespace Go.Proofs.Ytafnialikielkaa
open Go.RowKit

theorem RR.new {B0 : Nat} {w w' : World} {p : Nat} {ao : Option Addr} {cap : Nat} {q : Nat} {bo : Option Addr} {bcap : Nat} {bs : List UInt8} {at_ : Nat} {err : Int} (h : RR B0 w p ao cap q bo bcap bs at_ err) (hm : Mods (fun _ => False) w w') : RR B0 w' p ao cap q bo bcap bs at_ err :=
  ⟨h.one.new hm, h.two.new hm, h.ne, h.bp, h.aq, h.lp, h.lq⟩
def twoOf (p q : Nat) : Nat → Prop := fun k => k = p ∨ k = q
/-- What both leave. -/
def RRPost (B0 : Nat) (w : World) (p : Nat) (ao : Option Addr) (cap : Nat) (q : Nat) (bo : Option Addr) (bcap : Nat) (bs : List UInt8) (at_ : Nat) (err : Int) (e : Ending) (w' : World) : Prop :=
  e = .returned (.bool true) ∧ RR B0 w' p ao cap q bo bcap bs at_ err ∧ Mods (twoOf p q) w w'
/-- Where an item's reading leads to. -/
def itemRead (kind N : Int) (bs : List UInt8) (at_ : Nat) (err : Int) : Nat × Int :=
  if kind = 1 then (rnum 4 bs at_ err).2 else if kind = 2 then (rnum 8 bs at_ err).2 else if kind = 3 then (rbool bs at_ err).2 else if kind = 4 then (rbytes N bs at_ err).2 else (rfixed N bs at_ err).2

theorem mine_apart {xo : Option Addr} {m q : Nat} (hf : ∀ k, blk xo k → m ≤ k) (hq : q < m) : ∀ k, blk xo k → ¬ k = q := fun k hk e => by
  have h1 := hf k hk
  have h3 : k = q := e
  omega
theorem RR.step {B0 : Nat} {w w1 w2 : World} {p : Nat} {ao : Option Addr} {cap : Nat} {q : Nat} {bo : Option Addr} {bcap : Nat} {bs : List UInt8} {at_ a' : Nat} {err e' : Int} (h : RR B0 w p ao cap q bo bcap bs at_ err)
    (h1 : RD w1 p ao cap bs a' e') (m1 : Mods (fun k => k = p) w w1) (h2 : RD w2 q bo bcap bs a' e') (m2 : Mods (fun k => k = q) w1 w2) : RR B0 w2 p ao cap q bo bcap bs a' e' ∧ Mods (twoOf p q) w w2 :=
  ⟨⟨h1.keep m2 h.ne (fun k hk e => h.aq k hk e), h2, h.ne, h.bp, h.aq, h.lp, h.lq⟩, (m1.mono fun _ _ h => .inl h).trans (m2.mono fun _ _ h => .inr h)⟩
theorem RR.mid {B0 : Nat} {w w1 : World} {p : Nat} {ao : Option Addr} {cap : Nat} {q : Nat} {bo : Option Addr} {bcap : Nat} {bs : List UInt8} {at_ : Nat} {err : Int} (h : RR B0 w p ao cap q bo bcap bs at_ err) (m1 : Mods (fun k => k = p) w w1) : RD w1 q bo bcap bs at_ err :=
  h.two.keep m1 (fun e => h.ne e.symm) fun k hk e => h.bp k hk e


set_option maxHeartbeats 2000000 in
theorem read_u32 (B0 : Nat) (w : World) (p : Nat) (ao : Option Addr) (cap : Nat) (q : Nat) (bo : Option Addr) (bcap : Nat) (bs : List UInt8) (at_ : Nat) (err : Int) (h : RR B0 w p ao cap q bo bcap bs at_ err)
    (N V : Int) (On : Bool) (io : Value) :
    Calls Try.prog 28 #[.pointer (some ⟨p, 0, none⟩), .pointer (some ⟨q, 0, none⟩), .agg #[.int .i64 1, .int .i64 N, .int .u64 V, .bool On, io]] w
      (RRPost B0 w p ao cap q bo bcap bs (rnum 4 bs at_ err).2.1 (rnum 4 bs at_ err).2.2) := by
  have HB := hid (h.new (Mods.alloc _ w (.cells #[.int .i64 1, .int .i64 N, .int .u64 V, .bool On, io] 32)))
  have H1 := fun (w' : World) h => RDU32_any p ao cap bs at_ err w' h
  have H2 := fun (w' : World) h => RRU32_any q bo bcap bs at_ err w' h
  generalize rnum 4 bs at_ err = x at H1 H2 ⊢
  obtain ⟨v, a', e'⟩ := x
  simp only at H1 H2 ⊢
  have K1 := hid H1
  have K2 := hid H2
  have HM := hid (Mods.alloc (twoOf p q) w (.cells #[.int .i64 1, .int .i64 N, .int .u64 V, .bool On, io] 32))
  clear H1 H2 h
  go_enter Try.func28, Try.ntmps28
  go_wp2_with fail
  refine (K1.out _ HB.out.one).mono ?_
  rintro e w1 ⟨rfl, hr1, hm1⟩
  have hr1' := hid hr1
  have hm1' := hid hm1
  clear hr1 hm1
  go_wp2_with fail
  refine (K2.out _ (HB.out.mid hm1'.out)).mono ?_
  rintro e w2 ⟨rfl, hr2, hm2⟩
  have hfin := hid (HB.out.step hr1'.out hm1'.out hr2 hm2)
  clear hr2 hm2
  go_wp2
  go_ret
  exact ⟨rfl, hfin.out.1, HM.out.trans hfin.out.2⟩


set_option maxHeartbeats 2000000 in
theorem read_u64 (B0 : Nat) (w : World) (p : Nat) (ao : Option Addr) (cap : Nat) (q : Nat) (bo : Option Addr) (bcap : Nat) (bs : List UInt8) (at_ : Nat) (err : Int) (h : RR B0 w p ao cap q bo bcap bs at_ err)
    (N V : Int) (On : Bool) (io : Value) :
    Calls Try.prog 28 #[.pointer (some ⟨p, 0, none⟩), .pointer (some ⟨q, 0, none⟩), .agg #[.int .i64 2, .int .i64 N, .int .u64 V, .bool On, io]] w
      (RRPost B0 w p ao cap q bo bcap bs (rnum 8 bs at_ err).2.1 (rnum 8 bs at_ err).2.2) := by
  have HB := hid (h.new (Mods.alloc _ w (.cells #[.int .i64 2, .int .i64 N, .int .u64 V, .bool On, io] 32)))
  have H1 := fun (w' : World) h => RDU64_any p ao cap bs at_ err w' h
  have H2 := fun (w' : World) h => RRU64_any q bo bcap bs at_ err w' h
  generalize rnum 8 bs at_ err = x at H1 H2 ⊢
  obtain ⟨v, a', e'⟩ := x
  simp only at H1 H2 ⊢
  have K1 := hid H1
  have K2 := hid H2
  have HM := hid (Mods.alloc (twoOf p q) w (.cells #[.int .i64 2, .int .i64 N, .int .u64 V, .bool On, io] 32))
  clear H1 H2 h
  go_enter Try.func28, Try.ntmps28
  go_wp2_with fail
  refine (K1.out _ HB.out.one).mono ?_
  rintro e w1 ⟨rfl, hr1, hm1⟩
  have hr1' := hid hr1
  have hm1' := hid hm1
  clear hr1 hm1
  go_wp2_with fail
  refine (K2.out _ (HB.out.mid hm1'.out)).mono ?_
  rintro e w2 ⟨rfl, hr2, hm2⟩
  have hfin := hid (HB.out.step hr1'.out hm1'.out hr2 hm2)
  clear hr2 hm2
  go_wp2
  go_ret
  exact ⟨rfl, hfin.out.1, HM.out.trans hfin.out.2⟩


set_option maxHeartbeats 2000000 in
theorem read_bool (B0 : Nat) (w : World) (p : Nat) (ao : Option Addr) (cap : Nat) (q : Nat) (bo : Option Addr) (bcap : Nat) (bs : List UInt8) (at_ : Nat) (err : Int) (h : RR B0 w p ao cap q bo bcap bs at_ err)
    (N V : Int) (On : Bool) (io : Value) :
    Calls Try.prog 28 #[.pointer (some ⟨p, 0, none⟩), .pointer (some ⟨q, 0, none⟩), .agg #[.int .i64 3, .int .i64 N, .int .u64 V, .bool On, io]] w
      (RRPost B0 w p ao cap q bo bcap bs (rbool bs at_ err).2.1 (rbool bs at_ err).2.2) := by
  have HB := hid (h.new (Mods.alloc _ w (.cells #[.int .i64 3, .int .i64 N, .int .u64 V, .bool On, io] 32)))
  have H1 := fun (w' : World) h => RDBool_any p ao cap bs at_ err w' h
  have H2 := fun (w' : World) h => RRBool_any q bo bcap bs at_ err w' h
  generalize rbool bs at_ err = x at H1 H2 ⊢
  obtain ⟨v, a', e'⟩ := x
  simp only at H1 H2 ⊢
  have K1 := hid H1
  have K2 := hid H2
  have HM := hid (Mods.alloc (twoOf p q) w (.cells #[.int .i64 3, .int .i64 N, .int .u64 V, .bool On, io] 32))
  clear H1 H2 h
  go_enter Try.func28, Try.ntmps28
  go_wp2_with fail
  refine (K1.out _ HB.out.one).mono ?_
  rintro e w1 ⟨rfl, hr1, hm1⟩
  have hr1' := hid hr1
  have hm1' := hid hm1
  clear hr1 hm1
  go_wp2_with fail
  refine (K2.out _ (HB.out.mid hm1'.out)).mono ?_
  rintro e w2 ⟨rfl, hr2, hm2⟩
  have hfin := hid (HB.out.step hr1'.out hm1'.out hr2 hm2)
  clear hr2 hm2
  go_wp2
  go_ret
  exact ⟨by cases v <;> rfl, hfin.out.1, HM.out.trans hfin.out.2⟩


set_option maxHeartbeats 2000000 in
theorem read_bytes (B0 : Nat) (w : World) (p : Nat) (ao : Option Addr) (cap : Nat) (q : Nat) (bo : Option Addr) (bcap : Nat) (bs : List UInt8) (at_ : Nat) (err : Int) (h : RR B0 w p ao cap q bo bcap bs at_ err)
    (N V : Int) (On : Bool) (io : Value) (hN : -9223372036854775808 ≤ N ∧ N ≤ 9223372036854775807) :
    Calls Try.prog 28 #[.pointer (some ⟨p, 0, none⟩), .pointer (some ⟨q, 0, none⟩), .agg #[.int .i64 4, .int .i64 N, .int .u64 V, .bool On, io]] w
      (RRPost B0 w p ao cap q bo bcap bs (rbytes N bs at_ err).2.1 (rbytes N bs at_ err).2.2) := by
  have HB := hid (h.new (Mods.alloc _ w (.cells #[.int .i64 4, .int .i64 N, .int .u64 V, .bool On, io] 32)))
  have H1 := fun (w' : World) h => RDBytes_any N p ao cap bs at_ err w' h
  have H2 := fun (w' : World) h => RRBytes_any N q bo bcap bs at_ err w' h hN
  generalize rbytes N bs at_ err = x at H1 H2 ⊢
  obtain ⟨out, a', e'⟩ := x
  simp only at H1 H2 ⊢
  have K1 := hid H1
  have K2 := hid H2
  have HM := hid (Mods.alloc (twoOf p q) w (.cells #[.int .i64 4, .int .i64 N, .int .u64 V, .bool On, io] 32))
  have HQ := hid h.two.lt
  have HP := hid h.one.lt
  clear H1 H2 h hN
  go_enter Try.func28, Try.ntmps28
  go_wp2_with fail
  go_region_with (first | (go_at_call 23; refine (K1.out _ (HB.out.new (Mods.drew _ _)).one).mono ?_; rintro e w1 ⟨xo, xc, rfl, ho1, hf1, hr1, hm1⟩; have hr1' := hid hr1; have hm1' := hid ((Mods.drew _ _).trans hm1); have ho1' := hid ho1; have hf1' := hid hf1; have hcv1 := run_conv ho1.sl; have hbox := hm1'.out.cell (a := ⟨w.heap.size, 1, none⟩) (v := .int .i64 N) (by simp) (fun (h : w.heap.size = p) => by have := HP.out; omega); clear ho1 hf1 hr1 hm1) | (go_at_call 43; refine (K2.out _ (HB.out.mid hm1'.out)).mono ?_; rintro e w2 ⟨yo, yc, rfl, ho2, hf2, hr2, hm2⟩; have hfin := hid (HB.out.step hr1'.out hm1'.out hr2 hm2); have hcv2 := run_conv ho2.sl; have hcv3 := run_conv (ho1'.out.keep hm2 (mine_apart hf1'.out (by simp; have h2 := HQ.out; omega))).sl; clear ho2 hf2 hr2 hm2))
  all_goals
    go_wp2
    go_ret
    exact ⟨rfl, hfin.out.1, HM.out.trans hfin.out.2⟩


set_option maxHeartbeats 2000000 in
theorem read_fixed (B0 : Nat) (w : World) (p : Nat) (ao : Option Addr) (cap : Nat) (q : Nat) (bo : Option Addr) (bcap : Nat) (bs : List UInt8) (at_ : Nat) (err : Int) (h : RR B0 w p ao cap q bo bcap bs at_ err)
    (kind N V : Int) (On : Bool) (io : Value) (hN : -9223372036854775808 ≤ N ∧ N ≤ 9223372036854775807) (n1 : kind ≠ 1) (n2 : kind ≠ 2) (n3 : kind ≠ 3) (n4 : kind ≠ 4) :
    Calls Try.prog 28 #[.pointer (some ⟨p, 0, none⟩), .pointer (some ⟨q, 0, none⟩), .agg #[.int .i64 kind, .int .i64 N, .int .u64 V, .bool On, io]] w
      (RRPost B0 w p ao cap q bo bcap bs (rfixed N bs at_ err).2.1 (rfixed N bs at_ err).2.2) := by
  have HB := hid (h.new (Mods.alloc _ w (.cells #[.int .i64 kind, .int .i64 N, .int .u64 V, .bool On, io] 32)))
  have H1 := fun (w' : World) h => RDFixed_any N hN.1 hN.2 p ao cap bs at_ err w' h
  have H2 := fun (w' : World) h => RRFixed_any N hN.2 q bo bcap bs at_ err w' h
  generalize rfixed N bs at_ err = x at H1 H2 ⊢
  obtain ⟨out, a', e'⟩ := x
  simp only at H1 H2 ⊢
  have K1 := hid H1
  have K2 := hid H2
  have HM := hid (Mods.alloc (twoOf p q) w (.cells #[.int .i64 kind, .int .i64 N, .int .u64 V, .bool On, io] 32))
  have HQ := hid h.two.lt
  have HP := hid h.one.lt
  have m1 : (kind == 1) = false := by simpa using n1
  have m2 : (kind == 2) = false := by simpa using n2
  have m3 : (kind == 3) = false := by simpa using n3
  have m4 : (kind == 4) = false := by simpa using n4
  clear H1 H2 h hN
  go_enter Try.func28, Try.ntmps28
  go_wp2_with fail
  go_region_with (first | (go_at_call 36; refine (K1.out _ (HB.out.new (Mods.drew _ _)).one).mono ?_; rintro e w1 ⟨xo, xc, rfl, ho1, hf1, hr1, hm1⟩; have hr1' := hid hr1; have hm1' := hid ((Mods.drew _ _).trans hm1); have ho1' := hid ho1; have hf1' := hid hf1; have hcv1 := run_conv ho1.sl; have hbox := hm1'.out.cell (a := ⟨w.heap.size, 1, none⟩) (v := .int .i64 N) (by simp) (fun (h : w.heap.size = p) => by have := HP.out; omega); clear ho1 hf1 hr1 hm1) | (go_at_call 44; refine (K2.out _ (HB.out.mid hm1'.out)).mono ?_; rintro e w2 ⟨yo, yc, rfl, ho2, hf2, hr2, hm2⟩; have hfin := hid (HB.out.step hr1'.out hm1'.out hr2 hm2); have hcv2 := run_conv ho2.sl; have hcv3 := run_conv (ho1'.out.keep hm2 (mine_apart hf1'.out (by simp; have h2 := HQ.out; omega))).sl; clear ho2 hf2 hr2 hm2))
  all_goals
    go_wp2
    go_ret
    exact ⟨rfl, hfin.out.1, HM.out.trans hfin.out.2⟩


theorem read_any (B0 : Nat) (w : World) (p : Nat) (ao : Option Addr) (cap : Nat) (q : Nat) (bo : Option Addr) (bcap : Nat) (bs : List UInt8) (at_ : Nat) (err : Int) (h : RR B0 w p ao cap q bo bcap bs at_ err)
    (kind N V : Int) (On : Bool) (io : Value) (hN : -9223372036854775808 ≤ N ∧ N ≤ 9223372036854775807) :
    Calls Try.prog 28 #[.pointer (some ⟨p, 0, none⟩), .pointer (some ⟨q, 0, none⟩), .agg #[.int .i64 kind, .int .i64 N, .int .u64 V, .bool On, io]] w
      (RRPost B0 w p ao cap q bo bcap bs (itemRead kind N bs at_ err).1 (itemRead kind N bs at_ err).2) := by
  unfold itemRead
  split
  · subst kind; exact read_u32 B0 w p ao cap q bo bcap bs at_ err h N V On io
  · split
    · subst kind; exact read_u64 B0 w p ao cap q bo bcap bs at_ err h N V On io
    · split
      · subst kind; exact read_bool B0 w p ao cap q bo bcap bs at_ err h N V On io
      · split
        · subst kind; exact read_bytes B0 w p ao cap q bo bcap bs at_ err h N V On io hN
        · exact read_fixed B0 w p ao cap q bo bcap bs at_ err h kind N V On io hN ‹_› ‹_› ‹_› ‹_›

end Go.Proofs.Ytafnialikielkaa
