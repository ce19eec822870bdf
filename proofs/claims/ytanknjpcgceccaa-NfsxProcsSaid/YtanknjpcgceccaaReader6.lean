/- xdr's Reader.Bytes. -/
import Derived.Test.YtanknjpcgceccaaReader5
namespace Go.Proofs.Ytanknjpcgceccaa
open Go.RowKit

theorem rfixed_err {n : Int} {bs : List UInt8} {at_ : Nat} {err : Int} (h : (rfixed n bs at_ err).2.2 ≠ 0) : (rfixed n bs at_ err).1 = [] := by
  unfold rfixed at *
  split
  · rename_i he
    rw [if_pos he] at h
    split
    · rfl
    · rename_i h1
      rw [if_neg h1] at h
      split
      · rfl
      · rename_i h2
        rw [if_neg h2] at h
        split
        · rename_i h3
          rw [if_pos h3] at h
          exact absurd rfl h
        · rfl
  · rfl
theorem rfixed_of_err {n : Int} {bs : List UInt8} {at_ : Nat} {err : Int} (h : err ≠ 0) : rfixed n bs at_ err = ([], at_, err) := by simp [rfixed, h]

set_option maxHeartbeats 1000000 in
theorem RDBytes_any (most : Int) (r : Nat) (ao : Option Addr) (cap : Nat) (bs : List UInt8) (at_ : Nat) (err : Int) (w : World) (h : RD w r ao cap bs at_ err) :
    Calls Try.prog 81 #[.pointer (some ⟨r, 0, none⟩), .int .i64 most] w (FPost w r ao cap bs (rbytes most bs at_ err).1 (rbytes most bs at_ err).2.1 (rbytes most bs at_ err).2.2) := by
  have hU := RDU32_any r ao cap bs at_ err w h
  have hlt := rnum4_lt bs at_ err
  have h1 := h.c1
  have hle := h.le
  have hrb : rbytes most bs at_ err = (let r := rnum 4 bs at_ err
    if r.2.2 = 0 then if most < r.1 then ([], at_, 5) else (let f := rfixed r.1 bs r.2.1 0; if f.2.2 = 0 then f else ([], at_, f.2.2)) else ([], at_, r.2.2)) := rfl
  generalize rnum 4 bs at_ err = q at hU hlt hrb
  obtain ⟨v, a', e'⟩ := q
  simp only at hU hlt hrb
  have HU := hid hU
  clear hU h
  -- what the number leads to: the state in which Fixed is called
  by_cases he : e' = 0
  · subst he
    rw [if_pos rfl] at hrb
    by_cases hm : most < v
    · rw [if_pos hm] at hrb
      rw [hrb]
      clear hrb
      go_enter Try.func81, Try.ntmps81
      go_wp2_with fail
      refine HU.out.mono ?_
      rintro e w1 ⟨rfl, hr, hm1⟩
      have k2 := hr.c2
      have k0 := hr.c0
      have hr1 := hid hr
      have hm1' := hid hm1
      clear hr hm1
      go_wp2_with fail
      refine (fail_any r ao cap bs a' 0 5 w1 hr1.out).mono ?_
      rintro e w2 ⟨rfl, hr, hm2⟩
      have hr2' : RD w2 r ao cap bs a' 5 := by simpa using hr
      have hr2 := hid hr2'
      have hm2' := hid (hm1'.out.trans hm2)
      have hF := RDFixed_any v (by omega) (by omega) r ao cap bs a' 5 w2 hr2'
      rw [rfixed_of_err (by decide)] at hF
      have HF := hid hF
      clear hr hr2' hm2 hF
      go_wp2_with fail
      refine HF.out.mono ?_
      rintro e w3 ⟨xo, xc, rfl, ho, hf, hr, hm3⟩
      have k2 := hr.c2
      have kz := hr.f1
      have k1 := hr.c1
      have hset := hid (hr.set1 at_ hle)
      have ho3 := hid (ho.keep (Mods.setCell (F := fun k => k = r) (a := ⟨r, 1, none⟩) rfl (.int .i64 at_)) (fun k hk e => by have := hf k hk; have := hr2.out.lt; omega))
      have hf3 : Hid (∀ k, blk xo k → w.heap.size ≤ k) := fun k hk => Nat.le_trans hm2'.out.size (hf k hk)
      have hm3' := hid ((hm2'.out.trans hm3).trans (Mods.setCell (F := fun k => k = r) (a := ⟨r, 1, none⟩) rfl (.int .i64 at_)))
      clear hr hm3 ho hf
      go_wp2
      go_ret
      exact ⟨xo, xc, rfl, ho3.out, hf3.out, hset.out, hm3'.out⟩
    · rw [if_neg hm] at hrb
      have hF := fun w1 hr => RDFixed_any v (by omega) (by omega) r ao cap bs a' 0 w1 hr
      have hE := @rfixed_err v bs a' 0
      generalize rfixed v bs a' 0 = f at hF hE hrb
      obtain ⟨out, a2, e2⟩ := f
      simp only at hF hE hrb
      have HF := hid hF
      clear hF
      by_cases he2 : e2 = 0
      · subst he2
        rw [if_pos rfl] at hrb
        rw [hrb]
        clear hrb hE
        go_enter Try.func81, Try.ntmps81
        go_wp2_with fail
        refine HU.out.mono ?_
        rintro e w1 ⟨rfl, hr, hm1⟩
        have k2 := hr.c2
        have k0 := hr.c0
        have hr1 := hid hr
        have hm1' := hid hm1
        clear hr hm1
        go_wp2_with fail
        refine (HF.out w1 hr1.out).mono ?_
        rintro e w3 ⟨xo, xc, rfl, ho, hf, hr, hm3⟩
        have k2 := hr.c2
        have hr3 := hid hr
        have ho3 := hid ho
        have hf3 : Hid (∀ k, blk xo k → w.heap.size ≤ k) := fun k hk => Nat.le_trans hm1'.out.size (hf k hk)
        have hm3' := hid (hm1'.out.trans hm3)
        clear hr hm3 ho hf
        go_wp2
        go_ret
        exact ⟨xo, xc, rfl, ho3.out, hf3.out, hr3.out, hm3'.out⟩
      · rw [if_neg he2] at hrb
        rw [hrb]
        obtain rfl : out = [] := hE he2
        have hne : (e2 != 0) = true := by simpa using he2
        clear hrb hE
        go_enter Try.func81, Try.ntmps81
        go_wp2_with fail
        refine HU.out.mono ?_
        rintro e w1 ⟨rfl, hr, hm1⟩
        have k2 := hr.c2
        have k0 := hr.c0
        have hr1 := hid hr
        have hm1' := hid hm1
        clear hr hm1
        go_wp2_with fail
        refine (HF.out w1 hr1.out).mono ?_
        rintro e w3 ⟨xo, xc, rfl, ho, hf, hr, hm3⟩
        have k2 := hr.c2
        have kz := hr.f1
        have k1 := hr.c1
        have hset := hid (hr.set1 at_ hle)
        have ho3 := hid (ho.keep (Mods.setCell (F := fun k => k = r) (a := ⟨r, 1, none⟩) rfl (.int .i64 at_)) (fun k hk e => by have := hf k hk; have := hr1.out.lt; omega))
        have hf3 : Hid (∀ k, blk xo k → w.heap.size ≤ k) := fun k hk => Nat.le_trans hm1'.out.size (hf k hk)
        have hm3' := hid ((hm1'.out.trans hm3).trans (Mods.setCell (F := fun k => k = r) (a := ⟨r, 1, none⟩) rfl (.int .i64 at_)))
        clear hr hm3 ho hf
        go_wp2
        go_ret
        exact ⟨xo, xc, rfl, ho3.out, hf3.out, hset.out, hm3'.out⟩
  · rw [if_neg he] at hrb
    rw [hrb]
    have hne : (e' != 0) = true := by simpa using he
    have heq : (e' == 0) = false := by simpa using he
    have hF := fun w1 hr => RDFixed_any v (by omega) (by omega) r ao cap bs a' e' w1 hr
    rw [rfixed_of_err he] at hF
    have HF := hid hF
    clear hrb hF
    go_enter Try.func81, Try.ntmps81
    go_wp2_with fail
    refine HU.out.mono ?_
    rintro e w1 ⟨rfl, hr, hm1⟩
    have k2 := hr.c2
    have k0 := hr.c0
    have hr1 := hid hr
    have hm1' := hid hm1
    clear hr hm1
    go_wp2_with fail
    refine (HF.out w1 hr1.out).mono ?_
    rintro e w3 ⟨xo, xc, rfl, ho, hf, hr, hm3⟩
    have k2 := hr.c2
    have kz := hr.f1
    have k1 := hr.c1
    have hset := hid (hr.set1 at_ hle)
    have ho3 := hid (ho.keep (Mods.setCell (F := fun k => k = r) (a := ⟨r, 1, none⟩) rfl (.int .i64 at_)) (fun k hk e => by have := hf k hk; have := hr1.out.lt; omega))
    have hf3 : Hid (∀ k, blk xo k → w.heap.size ≤ k) := fun k hk => Nat.le_trans hm1'.out.size (hf k hk)
    have hm3' := hid ((hm1'.out.trans hm3).trans (Mods.setCell (F := fun k => k = r) (a := ⟨r, 1, none⟩) rfl (.int .i64 at_)))
    clear hr hm3 ho hf
    go_wp2
    go_ret
    exact ⟨xo, xc, rfl, ho3.out, hf3.out, hset.out, hm3'.out⟩

end Go.Proofs.Ytanknjpcgceccaa
