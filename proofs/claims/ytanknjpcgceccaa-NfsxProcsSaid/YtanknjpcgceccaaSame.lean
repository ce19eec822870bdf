/- slices.Equal on bytes. -/
import Derived.Test.YtanknjpcgceccaaRReader2
import Derived.BigQuiet
namespace Go.Proofs.Ytanknjpcgceccaa
open Go.RowKit

theorem take_grow {α : Type} {l m : List α} {k : Nat} (hl : k < l.length) (hm : k < m.length) (h : l.take k = m.take k) (he : l[k] = m[k]) : l.take (k + 1) = m.take (k + 1) := by
  rw [List.take_succ_eq_append_getElem hl, List.take_succ_eq_append_getElem hm, h, he]

set_option maxRecDepth 100000 in
set_option maxHeartbeats 1000000 in
theorem EqualB_any (ao : Option Addr) (ac : Nat) (xs : List UInt8) (bo : Option Addr) (bc : Nat) (bs : List UInt8) (w : World) (ha : SlB w ao ac xs) (hb : SlB w bo bc bs) (hla : xs.length ≤ 9223372036854775807) (hlb : bs.length ≤ 9223372036854775807) :
    Calls Try.prog 46 #[.slice ao xs.length ac, .slice bo bs.length bc] w fun e w' => e = .returned (.bool (decide (xs = bs))) ∧ Quiet w w' := by
  have HA := hid ha; have HB := hid hb; clear ha hb
  by_cases hne : xs.length = bs.length
  · have hne2 : (xs.length : Int) = (bs.length : Int) := by omega
    go_enter Try.func46, Try.ntmps46
    go_wp2
    go_loopw [13] (fun i wr => ∃ (k : Nat), k ≤ xs.length ∧ i = .int .i64 (k : Int) ∧ Quiet w wr ∧ xs.take k = bs.take k) (fun i _ => xs.length - (intOf i).toNat)
    case atStart => exact ⟨0, by omega, by go_num, Quiet.refl _, by simp⟩
    case round =>
      obtain ⟨k, hk, rfl, hq, ht⟩ := hrel
      have HQ := hid hq; have HT := hid ht; clear hq ht
      by_cases hlt : k < xs.length
      · have hlb2 : k < bs.length := by omega
        obtain ⟨b1, o1, rfl, hc1⟩ := (HA.out.keep (Quiet.mods (w := w) (w' := wr) HQ.out (fun _ => False)) (fun _ _ h => h)).at hlt
        obtain ⟨b2, o2, rfl, hc2⟩ := (HB.out.keep (Quiet.mods (w := w) (w' := wr) HQ.out (fun _ => False)) (fun _ _ h => h)).at hlb2
        obtain ⟨x, hx⟩ : ∃ x, x = xs[k] := ⟨_, rfl⟩
        obtain ⟨y, hy⟩ : ∃ y, y = bs[k] := ⟨_, rfl⟩
        rw [← hx] at hc1
        rw [← hy] at hc2
        have HX := hid hx; have HY := hid hy; clear hx hy
        by_cases hxy : x = y
        · subst hxy
          have hnt := hid (take_grow hlt hlb2 HT.out (by rw [← HX.out, ← HY.out]))
          go_wp2_with fail
          go_quiet (fail)
          have hq2 := hid (Quiet.trans (a := w) (b := wr) HQ.out ⟨nq, rfl⟩)
          clear hc1 hc2
          go_wp2
          go_roundw
          case rel => exact ⟨k + 1, by omega, by go_num, hq2.out, hnt.out⟩
          case measure => simp [intOf]; omega
        · have hxn : ¬ ((x.toNat : Int) = (y.toNat : Int)) := fun h => hxy (UInt8.toNat_inj.1 (by omega))
          have hno : Hid (xs ≠ bs) := fun e => hxy (by rw [HX.out, HY.out]; simp [e])
          go_wp2_with fail
          go_quiet (fail)
          have hq2 := hid (Quiet.trans (a := w) (b := wr) HQ.out ⟨nq, rfl⟩)
          clear hc1 hc2
          go_wp2
          go_ret
          exact ⟨by rw [decide_eq_false hno.out]; rfl, hq2.out⟩
      · have hyes : Hid (xs = bs) := hid (by
          have h := HT.out
          rwa [List.take_of_length_le (by omega), List.take_of_length_le (by omega)] at h)
        go_wp2
        go_ret
        exact ⟨by rw [decide_eq_true hyes.out]; rfl, HQ.out⟩
  · have hne2 : ¬ ((xs.length : Int) = (bs.length : Int)) := by omega
    have hno : Hid (xs ≠ bs) := fun e => hne (by rw [e])
    go_enter Try.func46, Try.ntmps46
    go_wp2
    go_ret
    exact ⟨by rw [decide_eq_false hno.out]; rfl, Quiet.refl _⟩

end Go.Proofs.Ytanknjpcgceccaa
