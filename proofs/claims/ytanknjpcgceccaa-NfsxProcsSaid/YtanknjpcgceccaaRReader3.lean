/- The reference's Reader.Bytes; the law's read. -/
import Derived.Test.YtanknjpcgceccaaRReader2
import Derived.Deep.RegionWith
namespace Go.Proofs.Ytanknjpcgceccaa
open Go.RowKit

theorem rnum_err_at {n : Nat} {bs : List UInt8} {at_ : Nat} {err : Int} (h : (rnum n bs at_ err).2.2 ≠ 0) : (rnum n bs at_ err).2.1 = at_ := by
  unfold rnum at *
  split
  · rename_i he
    rw [if_pos he] at h
    split
    · rename_i hf; rw [if_pos hf] at h; exact absurd rfl h
    · rfl
  · rfl

set_option maxHeartbeats 1000000 in
theorem RRBytes_any (most : Int) (r : Nat) (ao : Option Addr) (cap : Nat) (bs : List UInt8) (at_ : Nat) (err : Int) (w : World) (h : RD w r ao cap bs at_ err) (hmost : -9223372036854775808 ≤ most ∧ most ≤ 9223372036854775807) :
    Calls Try.prog 33 #[.pointer (some ⟨r, 0, none⟩), .int .i64 most] w (FPost w r ao cap bs (rbytes most bs at_ err).1 (rbytes most bs at_ err).2.1 (rbytes most bs at_ err).2.2) := by
  have hU := RRU32_any r ao cap bs at_ err w h
  have hlt := rnum4_lt bs at_ err
  have h1 := h.c1
  have hle := h.le
  have hea := @rnum_err_at 4 bs at_ err
  have hm0 := hmost.1
  have hm9 := hmost.2
  have hrb : rbytes most bs at_ err = (let r := rnum 4 bs at_ err
    if r.2.2 = 0 then if most < r.1 then ([], at_, 5) else (let f := rfixed r.1 bs r.2.1 0; if f.2.2 = 0 then f else ([], at_, f.2.2)) else ([], at_, r.2.2)) := rfl
  generalize rnum 4 bs at_ err = q at hU hlt hrb hea
  obtain ⟨v, a', e'⟩ := q
  simp only at hU hlt hrb hea
  have HU := hid hU
  clear hU h hmost
  by_cases he : e' = 0
  · subst he
    clear hea
    rw [if_pos rfl] at hrb
    by_cases hm : most < v
    · rw [if_pos hm] at hrb
      rw [hrb]
      clear hrb
      go_enter Try.func33, Try.ntmps33
      go_wp2_with fail
      refine HU.out.mono ?_
      rintro e w1 ⟨rfl, hr, hm1⟩
      have k2 := hr.c2
      have hr1 := hid hr
      have hm1' := hid hm1
      clear hr hm1
      go_wp2_with fail
      refine (Rfail_any r ao cap bs a' at_ 0 5 w1 hr1.out hle).mono ?_
      rintro e w2 ⟨rfl, hr, hm2⟩
      have hr2 := hid hr
      have hm2' := hid (hm1'.out.trans hm2)
      clear hr hm2
      go_wp2
      go_ret
      exact ⟨none, 0, rfl, OwnB.nil _, fun _ h => h.elim, hr2.out, hm2'.out⟩
    · rw [if_neg hm] at hrb
      have hF := fun w1 hr => RRFixed_any v (by omega) r ao cap bs a' 0 w1 hr
      have hE := @rfixed_err v bs a' 0
      generalize rfixed v bs a' 0 = f at hF hE hrb
      obtain ⟨out, a2, e2⟩ := f
      simp only at hF hE hrb
      have HF := hid hF
      clear hF
      by_cases he2 : e2 = 0
      · subst he2
        rw [if_pos rfl] at hrb
        rw [hrb]
        clear hrb hE
        go_enter Try.func33, Try.ntmps33
        go_wp2_with fail
        refine HU.out.mono ?_
        rintro e w1 ⟨rfl, hr, hm1⟩
        have k2 := hr.c2
        have hr1 := hid hr
        have hm1' := hid hm1
        clear hr hm1
        go_wp2_with fail
        refine (HF.out w1 hr1.out).mono ?_
        rintro e w3 ⟨xo, xc, rfl, ho, hf, hr, hm3⟩
        have k2 := hr.c2
        have hr3 := hid hr
        have ho3 := hid ho
        have hf3 : Hid (∀ k, blk xo k → w.heap.size ≤ k) := fun k hk => Nat.le_trans hm1'.out.size (hf k hk)
        have hm3' := hid (hm1'.out.trans hm3)
        clear hr hm3 ho hf
        go_wp2
        go_ret
        exact ⟨xo, xc, rfl, ho3.out, hf3.out, hr3.out, hm3'.out⟩
      · rw [if_neg he2] at hrb
        rw [hrb]
        obtain rfl : out = [] := hE he2
        have hne : (e2 != 0) = true := by simpa using he2
        clear hrb hE
        go_enter Try.func33, Try.ntmps33
        go_wp2_with fail
        refine HU.out.mono ?_
        rintro e w1 ⟨rfl, hr, hm1⟩
        have k2 := hr.c2
        have hr1 := hid hr
        have hm1' := hid hm1
        clear hr hm1
        go_wp2_with fail
        refine (HF.out w1 hr1.out).mono ?_
        rintro e w3 ⟨xo, xc, rfl, ho, hf, hr, hm3⟩
        have k2 := hr.c2
        have kz := hr.f1
        have k1 := hr.c1
        have hset := hid (hr.set1 at_ hle)
        have hm3' := hid ((hm1'.out.trans hm3).trans (Mods.setCell (F := fun k => k = r) (a := ⟨r, 1, none⟩) rfl (.int .i64 at_)))
        clear hr hm3 ho hf
        go_wp2
        go_ret
        exact ⟨none, 0, rfl, OwnB.nil _, fun _ h => h.elim, hset.out, hm3'.out⟩
  · rw [if_neg he] at hrb
    rw [hrb]
    obtain rfl : a' = at_ := hea he
    have hne : (e' != 0) = true := by simpa using he
    clear hrb hea
    go_enter Try.func33, Try.ntmps33
    go_wp2_with fail
    refine HU.out.mono ?_
    rintro e w1 ⟨rfl, hr, hm1⟩
    have k2 := hr.c2
    have hr1 := hid hr
    have hm1' := hid hm1
    clear hr hm1
    go_wp2
    go_ret
    exact ⟨none, 0, rfl, OwnB.nil _, fun _ h => h.elim, hr1.out, hm1'.out⟩

/-- Two readers of the same bytes at the same place. -/
structure RR (B0 : Nat) (w : World) (p : Nat) (ao : Option Addr) (cap : Nat) (q : Nat) (bo : Option Addr) (bcap : Nat) (bs : List UInt8) (at_ : Nat) (err : Int) : Prop where
  one : RD w p ao cap bs at_ err
  two : RD w q bo bcap bs at_ err
  ne : p ≠ q
  bp : ∀ k, rb bo bs.length k → k ≠ p
  aq : ∀ k, rb ao bs.length k → k ≠ q
  lp : B0 ≤ p
  lq : B0 ≤ q

end Go.Proofs.Ytanknjpcgceccaa
