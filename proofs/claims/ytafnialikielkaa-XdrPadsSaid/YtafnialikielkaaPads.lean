/- XdrPads: what is read back, what a bad nought makes. Plain, no program. -/
import Derived.Test.YtafnialikielkaaPlain
namespace Go.Proofs.Ytafnialikielkaa

theorem row_mid (bs : List UInt8) : ((row bs).drop 4).take bs.length = bs := by
  unfold row padded
  rw [List.drop_left' (be_length _ _), List.take_left' rfl]
theorem row_size (bs : List UInt8) : (row bs).length = 4 + bs.length + pad bs.length := by rw [row_len, padded_len]; omega
theorem rbytes_row (bs ms : List UInt8) (hx : bs.length < 4294967296) : rbytes bs.length (row bs ++ ms) 0 0 = (bs, (row bs).length, 0) := by
  have h := rbytes_full (xs := bs) (bs := row bs ++ ms) (suf := ms) (at_ := 0) (by simp) (by omega) hx
  simpa using h
theorem rnum_row (bs ys : List UInt8) (hx : bs.length < 4294967296) (h4 : ys.take 4 = be 4 bs.length) : rnum 4 ys 0 0 = (bs.length, 4, 0) := by
  have hD : ys.drop 0 = be 4 bs.length ++ ys.drop 4 := by rw [← h4]; simp
  have h := rnum_full hD (by omega) (by omega) (by omega)
  simpa using h
theorem rbytes_long (bs : List UInt8) (hx : bs.length < 4294967296) (h0 : 0 < bs.length) : rbytes ((bs.length : Int) - 1) (row bs) 0 0 = ([], 0, 5) := by
  have h := rnum_row bs (row bs) hx (by unfold row; rw [List.take_left' (be_length _ _)])
  unfold rbytes
  simp only [h]
  rw [if_pos trivial, if_pos (by omega)]
/-- A nought that is none. -/
theorem rbytes_bad (bs : List UInt8) (hx : bs.length < 4294967296) (k : Nat) (hk : k < pad bs.length) (b : UInt8) (hb : b ≠ 0) : rbytes bs.length ((row bs).set ((row bs).length - 1 - k) b) 0 0 = ([], 0, 15) := by
  have hs := row_size bs
  have h := rnum_row bs ((row bs).set ((row bs).length - 1 - k) b) hx (by rw [List.take_set_of_le (by omega)]; unfold row; rw [List.take_left' (be_length _ _)])
  have hf : rfixed bs.length ((row bs).set ((row bs).length - 1 - k) b) 4 0 = ([], 4, 15) := by
    unfold rfixed
    simp only [Int.toNat_natCast, if_true]
    rw [if_neg (by omega), if_neg (by rw [List.length_set]; omega), if_neg]
    intro hall
    have h1 := List.all_eq_true.1 hall b (by
      refine List.mem_iff_getElem?.2 ⟨pad bs.length - 1 - k, ?_⟩
      rw [List.getElem?_take, if_pos (by omega), List.getElem?_drop, List.getElem?_set, if_pos (by omega), if_pos (by omega)])
    exact hb (by simpa using h1)
  unfold rbytes
  simp only [h, hf]
  rw [if_pos trivial, if_neg (by omega), if_neg (by decide)]
theorem rnum_err (ys : List UInt8) : rnum 4 ys 0 15 = (0, 0, 15) := by unfold rnum; rw [if_neg (by decide)]

end Go.Proofs.Ytafnialikielkaa
