/- Of each procedure what is empty is written and read again; with more behind it it is not read. (Printed by wip/tools/gen_procs.py.) -/
import Derived.Test.YtanknjpcgceccaaGen23
namespace Go.Proofs.Ytanknjpcgceccaa
open Go.RowKit

/-- The arguments, the results that the law writes. -/
def emptyA (p : Int) : ArgsV := if p = 11 then { zeroArgs with type := 1 } else zeroArgs
def emptyR (p : Int) : ResV := if p = 1 then { zeroRes with obj := ⟨true, { zeroAttr with type := 1 }⟩ } else if p = 3 ∨ p = 101 then { zeroRes with hasHandle := true } else zeroRes
/-- What they are as bytes. -/
def bytesA (k : Nat) : List UInt8 := (wargs (k : Int) (emptyA (k : Int)) (.slice none 0 0)).1
def bytesR (k : Nat) : List UInt8 := (wres (k : Int) (emptyR (k : Int)) (.slice none 0 0)).1
def X0A (bs : List UInt8) : X := (.rd bs 0 0 false, cellsOf zeroArgs (.slice none 0 0))
def X0R (bs : List UInt8) : X := (.rd bs 0 0 false, resCells zeroRes (.slice none 0 0) (.slice none 0 0))
structure ProcA (k : Nat) : Prop where
  ok : (wargs (k : Int) (emptyA (k : Int)) (.slice none 0 0)).2 = 0
  back : rargs (k : Int) (bytesA k) = (emptyA (k : Int), 0)
  more : ∀ m : List UInt8, (pAll k (X0A (bytesA k ++ m)) []).1.1 = .rd (bytesA k ++ m) (bytesA k).length 0 false
structure ProcR (k : Nat) : Prop where
  ok : (wres (k : Int) (emptyR (k : Int)) (.slice none 0 0)).2 = 0
  back : rres (k : Int) (bytesR k) = (emptyR (k : Int), 0)
  more : ∀ m : List UInt8, (rAll k (X0R (bytesR k ++ m)) []).1.1 = .rd (bytesR k ++ m) (bytesR k).length 0 false
  lines : ∀ m : List UInt8, NoLines k (rFront k (X0R (bytesR k ++ m)))

theorem procA_0 : ProcA 0 := ⟨by kernel_rfl, by kernel_rfl, fun m => by kernel_rfl⟩
theorem procA_1 : ProcA 1 := ⟨by kernel_rfl, by kernel_rfl, fun m => by kernel_rfl⟩
theorem procA_2 : ProcA 2 := ⟨by kernel_rfl, by kernel_rfl, fun m => by kernel_rfl⟩
theorem procA_3 : ProcA 3 := ⟨by kernel_rfl, by kernel_rfl, fun m => by kernel_rfl⟩
theorem procA_4 : ProcA 4 := ⟨by kernel_rfl, by kernel_rfl, fun m => by kernel_rfl⟩
theorem procA_5 : ProcA 5 := ⟨by kernel_rfl, by kernel_rfl, fun m => by kernel_rfl⟩
theorem procA_6 : ProcA 6 := ⟨by kernel_rfl, by kernel_rfl, fun m => by kernel_rfl⟩
theorem procA_7 : ProcA 7 := ⟨by kernel_rfl, by kernel_rfl, fun m => by kernel_rfl⟩
theorem procA_8 : ProcA 8 := ⟨by kernel_rfl, by kernel_rfl, fun m => by kernel_rfl⟩
theorem procA_9 : ProcA 9 := ⟨by kernel_rfl, by kernel_rfl, fun m => by kernel_rfl⟩
theorem procA_10 : ProcA 10 := ⟨by kernel_rfl, by kernel_rfl, fun m => by kernel_rfl⟩
theorem procA_11 : ProcA 11 := ⟨by kernel_rfl, by kernel_rfl, fun m => by kernel_rfl⟩
theorem procA_12 : ProcA 12 := ⟨by kernel_rfl, by kernel_rfl, fun m => by kernel_rfl⟩
theorem procA_13 : ProcA 13 := ⟨by kernel_rfl, by kernel_rfl, fun m => by kernel_rfl⟩
theorem procA_14 : ProcA 14 := ⟨by kernel_rfl, by kernel_rfl, fun m => by kernel_rfl⟩
theorem procA_15 : ProcA 15 := ⟨by kernel_rfl, by kernel_rfl, fun m => by kernel_rfl⟩
theorem procA_16 : ProcA 16 := ⟨by kernel_rfl, by kernel_rfl, fun m => by kernel_rfl⟩
theorem procA_17 : ProcA 17 := ⟨by kernel_rfl, by kernel_rfl, fun m => by kernel_rfl⟩
theorem procA_18 : ProcA 18 := ⟨by kernel_rfl, by kernel_rfl, fun m => by kernel_rfl⟩
theorem procA_19 : ProcA 19 := ⟨by kernel_rfl, by kernel_rfl, fun m => by kernel_rfl⟩
theorem procA_20 : ProcA 20 := ⟨by kernel_rfl, by kernel_rfl, fun m => by kernel_rfl⟩
theorem procA_21 : ProcA 21 := ⟨by kernel_rfl, by kernel_rfl, fun m => by kernel_rfl⟩
theorem procA_100 : ProcA 100 := ⟨by kernel_rfl, by kernel_rfl, fun m => by kernel_rfl⟩
theorem procA_101 : ProcA 101 := ⟨by kernel_rfl, by kernel_rfl, fun m => by kernel_rfl⟩
theorem procA_102 : ProcA 102 := ⟨by kernel_rfl, by kernel_rfl, fun m => by kernel_rfl⟩
theorem procA_103 : ProcA 103 := ⟨by kernel_rfl, by kernel_rfl, fun m => by kernel_rfl⟩
theorem procA_104 : ProcA 104 := ⟨by kernel_rfl, by kernel_rfl, fun m => by kernel_rfl⟩
theorem procA_105 : ProcA 105 := ⟨by kernel_rfl, by kernel_rfl, fun m => by kernel_rfl⟩
theorem procR_0 : ProcR 0 := ⟨by kernel_rfl, by kernel_rfl, fun m => by kernel_rfl, fun m => fun h => absurd h (by decide)⟩
theorem procR_1 : ProcR 1 := ⟨by kernel_rfl, by kernel_rfl, fun m => by kernel_rfl, fun m => fun h => absurd h (by decide)⟩
theorem procR_2 : ProcR 2 := ⟨by kernel_rfl, by kernel_rfl, fun m => by kernel_rfl, fun m => fun h => absurd h (by decide)⟩
theorem procR_3 : ProcR 3 := ⟨by kernel_rfl, by kernel_rfl, fun m => by kernel_rfl, fun m => fun h => absurd h (by decide)⟩
theorem procR_4 : ProcR 4 := ⟨by kernel_rfl, by kernel_rfl, fun m => by kernel_rfl, fun m => fun h => absurd h (by decide)⟩
theorem procR_5 : ProcR 5 := ⟨by kernel_rfl, by kernel_rfl, fun m => by kernel_rfl, fun m => fun h => absurd h (by decide)⟩
theorem procR_6 : ProcR 6 := ⟨by kernel_rfl, by kernel_rfl, fun m => by kernel_rfl, fun m => fun h => absurd h (by decide)⟩
theorem procR_7 : ProcR 7 := ⟨by kernel_rfl, by kernel_rfl, fun m => by kernel_rfl, fun m => fun h => absurd h (by decide)⟩
theorem procR_8 : ProcR 8 := ⟨by kernel_rfl, by kernel_rfl, fun m => by kernel_rfl, fun m => fun h => absurd h (by decide)⟩
theorem procR_9 : ProcR 9 := ⟨by kernel_rfl, by kernel_rfl, fun m => by kernel_rfl, fun m => fun h => absurd h (by decide)⟩
theorem procR_10 : ProcR 10 := ⟨by kernel_rfl, by kernel_rfl, fun m => by kernel_rfl, fun m => fun h => absurd h (by decide)⟩
theorem procR_11 : ProcR 11 := ⟨by kernel_rfl, by kernel_rfl, fun m => by kernel_rfl, fun m => fun h => absurd h (by decide)⟩
theorem procR_12 : ProcR 12 := ⟨by kernel_rfl, by kernel_rfl, fun m => by kernel_rfl, fun m => fun h => absurd h (by decide)⟩
theorem procR_13 : ProcR 13 := ⟨by kernel_rfl, by kernel_rfl, fun m => by kernel_rfl, fun m => fun h => absurd h (by decide)⟩
theorem procR_14 : ProcR 14 := ⟨by kernel_rfl, by kernel_rfl, fun m => by kernel_rfl, fun m => fun h => absurd h (by decide)⟩
theorem procR_15 : ProcR 15 := ⟨by kernel_rfl, by kernel_rfl, fun m => by kernel_rfl, fun m => fun h => absurd h (by decide)⟩
theorem procR_16 : ProcR 16 := ⟨by kernel_rfl, by kernel_rfl, fun m => by kernel_rfl, fun m => fun _ _ => by kernel_rfl⟩
theorem procR_17 : ProcR 17 := ⟨by kernel_rfl, by kernel_rfl, fun m => by kernel_rfl, fun m => fun _ _ => by kernel_rfl⟩
theorem procR_18 : ProcR 18 := ⟨by kernel_rfl, by kernel_rfl, fun m => by kernel_rfl, fun m => fun h => absurd h (by decide)⟩
theorem procR_19 : ProcR 19 := ⟨by kernel_rfl, by kernel_rfl, fun m => by kernel_rfl, fun m => fun h => absurd h (by decide)⟩
theorem procR_20 : ProcR 20 := ⟨by kernel_rfl, by kernel_rfl, fun m => by kernel_rfl, fun m => fun h => absurd h (by decide)⟩
theorem procR_21 : ProcR 21 := ⟨by kernel_rfl, by kernel_rfl, fun m => by kernel_rfl, fun m => fun h => absurd h (by decide)⟩
theorem procR_100 : ProcR 100 := ⟨by kernel_rfl, by kernel_rfl, fun m => by kernel_rfl, fun m => fun h => absurd h (by decide)⟩
theorem procR_101 : ProcR 101 := ⟨by kernel_rfl, by kernel_rfl, fun m => by kernel_rfl, fun m => fun h => absurd h (by decide)⟩
theorem procR_102 : ProcR 102 := ⟨by kernel_rfl, by kernel_rfl, fun m => by kernel_rfl, fun m => fun h => absurd h (by decide)⟩
theorem procR_103 : ProcR 103 := ⟨by kernel_rfl, by kernel_rfl, fun m => by kernel_rfl, fun m => fun h => absurd h (by decide)⟩
theorem procR_104 : ProcR 104 := ⟨by kernel_rfl, by kernel_rfl, fun m => by kernel_rfl, fun m => fun h => absurd h (by decide)⟩
theorem procR_105 : ProcR 105 := ⟨by kernel_rfl, by kernel_rfl, fun m => by kernel_rfl, fun m => fun h => absurd h (by decide)⟩
theorem procA {k : Nat} (hk : thereN k) : ProcA k := by
  have hc : k = 0 ∨ k = 1 ∨ k = 2 ∨ k = 3 ∨ k = 4 ∨ k = 5 ∨ k = 6 ∨ k = 7 ∨ k = 8 ∨ k = 9 ∨ k = 10 ∨ k = 11 ∨ k = 12 ∨ k = 13 ∨ k = 14 ∨ k = 15 ∨ k = 16 ∨ k = 17 ∨ k = 18 ∨ k = 19 ∨ k = 20 ∨ k = 21 ∨ k = 100 ∨ k = 101 ∨ k = 102 ∨ k = 103 ∨ k = 104 ∨ k = 105 := by unfold thereN at hk; omega
  rcases hc with rfl | rfl | rfl | rfl | rfl | rfl | rfl | rfl | rfl | rfl | rfl | rfl | rfl | rfl | rfl | rfl | rfl | rfl | rfl | rfl | rfl | rfl | rfl | rfl | rfl | rfl | rfl | rfl
  · exact procA_0
  · exact procA_1
  · exact procA_2
  · exact procA_3
  · exact procA_4
  · exact procA_5
  · exact procA_6
  · exact procA_7
  · exact procA_8
  · exact procA_9
  · exact procA_10
  · exact procA_11
  · exact procA_12
  · exact procA_13
  · exact procA_14
  · exact procA_15
  · exact procA_16
  · exact procA_17
  · exact procA_18
  · exact procA_19
  · exact procA_20
  · exact procA_21
  · exact procA_100
  · exact procA_101
  · exact procA_102
  · exact procA_103
  · exact procA_104
  · exact procA_105
theorem procR {k : Nat} (hk : thereN k) : ProcR k := by
  have hc : k = 0 ∨ k = 1 ∨ k = 2 ∨ k = 3 ∨ k = 4 ∨ k = 5 ∨ k = 6 ∨ k = 7 ∨ k = 8 ∨ k = 9 ∨ k = 10 ∨ k = 11 ∨ k = 12 ∨ k = 13 ∨ k = 14 ∨ k = 15 ∨ k = 16 ∨ k = 17 ∨ k = 18 ∨ k = 19 ∨ k = 20 ∨ k = 21 ∨ k = 100 ∨ k = 101 ∨ k = 102 ∨ k = 103 ∨ k = 104 ∨ k = 105 := by unfold thereN at hk; omega
  rcases hc with rfl | rfl | rfl | rfl | rfl | rfl | rfl | rfl | rfl | rfl | rfl | rfl | rfl | rfl | rfl | rfl | rfl | rfl | rfl | rfl | rfl | rfl | rfl | rfl | rfl | rfl | rfl | rfl
  · exact procR_0
  · exact procR_1
  · exact procR_2
  · exact procR_3
  · exact procR_4
  · exact procR_5
  · exact procR_6
  · exact procR_7
  · exact procR_8
  · exact procR_9
  · exact procR_10
  · exact procR_11
  · exact procR_12
  · exact procR_13
  · exact procR_14
  · exact procR_15
  · exact procR_16
  · exact procR_17
  · exact procR_18
  · exact procR_19
  · exact procR_20
  · exact procR_21
  · exact procR_100
  · exact procR_101
  · exact procR_102
  · exact procR_103
  · exact procR_104
  · exact procR_105

/-- Bytes that go on too long are not read. -/
theorem args_long {k : Nat} (hk : thereN k) {m : List UInt8} (hm : m ≠ []) : (rargs (k : Int) (bytesA k ++ m)).2 = 33 := by
  have h := (procA hk).more m
  have ht : there (k : Int) = true := by unfold there; unfold thereN at hk; simp; omega
  have he : endedB (bytesA k ++ m) (bytesA k).length 0 false = false := by
    have h0 : 0 < m.length := List.length_pos_iff.2 hm
    have e1 : (((bytesA k ++ m).length : Int) - ((bytesA k).length : Int) == 0) = false := by
      rw [List.length_append, beq_eq_false_iff_ne]
      omega
    unfold endedB
    rw [e1]
    rfl
  unfold X0A at h
  simp only [rargs, ht, if_true, Int.toNat_natCast, h, he]
  rfl
theorem res_long {k : Nat} (hk : thereN k) {m : List UInt8} (hm : m ≠ []) : (rres (k : Int) (bytesR k ++ m)).2 = 15 := by
  have h := (procR hk).more m
  have ht : there (k : Int) = true := by unfold there; unfold thereN at hk; simp; omega
  have he : endedB (bytesR k ++ m) (bytesR k).length 0 false = false := by
    have h0 : 0 < m.length := List.length_pos_iff.2 hm
    have e1 : (((bytesR k ++ m).length : Int) - ((bytesR k).length : Int) == 0) = false := by
      rw [List.length_append, beq_eq_false_iff_ne]
      omega
    unfold endedB
    rw [e1]
    rfl
  unfold X0R at h
  simp only [rres, ht, if_true, Int.toNat_natCast, h, he]
  rfl

end Go.Proofs.Ytanknjpcgceccaa
