/- What is written is read again; what is cut is not. Plain, no program. -/
import Derived.Test.YtafnialikielkaaLawReads
namespace Go.Proofs.Ytafnialikielkaa

theorem u8_toNat (x : Int) : (u8 x).toNat = (x % 256).toNat := by
  unfold u8
  rw [UInt8.toNat_ofNat']
  have h : 0 ≤ x % 256 ∧ x % 256 < 256 := by omega
  omega

theorem be_succ (n : Nat) (v : Int) : be (n + 1) v = be n (v / 256) ++ [u8 v] := by
  unfold be
  rw [List.range_succ, List.map_append]
  congr 1
  · refine List.map_congr_left fun j hj => ?_
    have hj' := List.mem_range.1 hj
    have h1 : 8 * (n + 1 - 1 - j) = 8 + 8 * (n - 1 - j) := by omega
    rw [h1, Int.ediv_ediv_of_nonneg (by decide)]
    congr 2
    rw [Int.pow_add]
    rfl
  · simp
theorem beval_be (n : Nat) : ∀ v : Int, 0 ≤ v → v < 256 ^ n → (beval (be n v) : Int) = v := by
  induction n with
  | zero => intro v h1 h2; simp [be, beval] at *; omega
  | succ n ih =>
    intro v h1 h2
    rw [be_succ, beval_snoc, u8_toNat]
    have h3 := ih (v / 256) (by omega) (by rw [Int.pow_succ] at h2; omega)
    rw [Int.natCast_add, Int.natCast_mul, h3]
    omega

theorem drop_len {bs X suf : List UInt8} {at_ : Nat} (hD : bs.drop at_ = X ++ suf) (hle : at_ ≤ bs.length) : bs.length = at_ + X.length + suf.length := by
  have h := congrArg List.length hD
  simp at h
  omega

theorem rnum_full {n : Nat} {v : Int} {bs suf : List UInt8} {at_ : Nat} (hD : bs.drop at_ = be n v ++ suf) (hle : at_ ≤ bs.length) (h1 : 0 ≤ v) (h2 : v < 256 ^ n) : rnum n bs at_ 0 = (v.toNat, at_ + n, 0) := by
  have hl := drop_len hD hle
  rw [be_length] at hl
  unfold rnum
  rw [if_pos rfl, if_pos (by omega), hD, List.take_left' (be_length n v)]
  have h3 := beval_be n v h1 h2
  have h4 : beval (be n v) = v.toNat := by omega
  rw [h4]
theorem rnum_cut {n : Nat} {bs : List UInt8} {at_ : Nat} (h : bs.length < at_ + n) : rnum n bs at_ 0 = (0, at_, 11) := by
  unfold rnum
  rw [if_pos rfl, if_neg (by omega)]

theorem padded_len (xs : List UInt8) : (padded xs).length = xs.length + pad xs.length := by simp [padded]

theorem rfixed_full {xs bs suf : List UInt8} {at_ : Nat} (hD : bs.drop at_ = padded xs ++ suf) (hle : at_ ≤ bs.length) : rfixed xs.length bs at_ 0 = (xs, at_ + (padded xs).length, 0) := by
  have hl := drop_len hD hle
  rw [padded_len] at hl ⊢
  unfold rfixed
  simp only [Int.toNat_natCast, if_true]
  rw [if_neg (by omega), if_neg (by omega)]
  have h1 : (bs.drop (at_ + xs.length)).take (pad xs.length) = List.replicate (pad xs.length) 0 := by
    rw [← List.drop_drop, hD]
    simp only [padded, List.append_assoc]
    rw [List.drop_left' rfl, List.take_left' (by simp)]
  have h2 : (bs.drop at_).take xs.length = xs := by
    rw [hD]
    simp only [padded, List.append_assoc]
    rw [List.take_left' rfl]
  rw [h1, h2, if_pos (by simp)]
theorem rfixed_cut {xs bs : List UInt8} {at_ : Nat} (h : bs.length < at_ + (padded xs).length) : rfixed xs.length bs at_ 0 = ([], at_, 11) := by
  rw [padded_len] at h
  unfold rfixed
  simp only [Int.toNat_natCast, if_true]
  rw [if_neg (by omega), if_pos (by omega)]

theorem row_len (xs : List UInt8) : (row xs).length = 4 + (padded xs).length := by simp [row, be_length]
theorem rbytes_full {xs bs suf : List UInt8} {at_ : Nat} (hD : bs.drop at_ = row xs ++ suf) (hle : at_ ≤ bs.length) (hx : xs.length < 4294967296) : rbytes xs.length bs at_ 0 = (xs, at_ + (row xs).length, 0) := by
  have hl := drop_len hD hle
  rw [row_len] at hl ⊢
  have h1 : bs.drop at_ = be 4 xs.length ++ (padded xs ++ suf) := by rw [hD]; simp [row]
  have h2 : bs.drop (at_ + 4) = padded xs ++ suf := by rw [← List.drop_drop, h1, List.drop_left' (be_length _ _)]
  have h3 := rnum_full h1 hle (by omega) (by omega)
  have h4 := rfixed_full h2 (by omega)
  unfold rbytes
  simp only [h3, Int.toNat_natCast, h4]
  simp [Nat.add_assoc]
theorem rbytes_cut {xs bs suf : List UInt8} {at_ m : Nat} (hD : bs.drop at_ = (row xs ++ suf).take m) (hle : at_ ≤ bs.length) (hm : m < (row xs).length) (hx : xs.length < 4294967296) : (rbytes xs.length bs at_ 0).2.2 ≠ 0 := by
  have hl : bs.length = at_ + m := by
    have h := congrArg List.length hD
    simp at h
    omega
  rw [row_len] at hm
  rcases Nat.lt_or_ge m 4 with h | h
  · unfold rbytes
    rw [rnum_cut (by omega)]
    simp
  · have h1 : bs.drop at_ = be 4 xs.length ++ (padded xs ++ suf).take (m - 4) := by
      rw [hD, row, List.append_assoc, List.take_append, be_length, List.take_of_length_le (by rw [be_length]; omega)]
    have h3 := rnum_full h1 hle (by omega) (by omega)
    have h4 := rfixed_cut (xs := xs) (bs := bs) (at_ := at_ + 4) (by omega)
    unfold rbytes
    simp only [h3, Int.toNat_natCast, h4]
    simp

/-- How an item is read back: does it come, where does it lead, which error. -/
def itemBack (i : Itm) (bs : List UInt8) (at_ : Nat) : Bool × Nat × Int :=
  if i.kind = 1 then (let r := rnum 4 bs at_ 0; (decide ((r.1 : Int) = i.V % 4294967296), r.2))
  else if i.kind = 2 then (let r := rnum 8 bs at_ 0; (decide ((r.1 : Int) = i.V), r.2))
  else if i.kind = 3 then (let r := rbool bs at_ 0; (decide (r.1 = i.On), r.2))
  else if i.kind = 4 then (let r := rbytes i.bs.length bs at_ 0; (decide (r.1 = i.bs), r.2))
  else (let r := rfixed i.bs.length bs at_ 0; (decide (r.1 = i.bs), r.2))

def backGo (bs : List UInt8) : List Itm → Nat → Bool
  | [], at_ => decide (at_ = bs.length)
  | i :: l, at_ => if (itemBack i bs at_).1 = true ∧ (itemBack i bs at_).2.2 = 0 then backGo bs l (itemBack i bs at_).2.1 else false

theorem itemBack_full {i : Itm} {bs suf : List UInt8} {at_ : Nat} (hD : bs.drop at_ = i.bytes ++ suf) (hle : at_ ≤ bs.length) (hV : 0 ≤ i.V ∧ i.V < 18446744073709551616) (hx : i.bs.length < 4294967296) :
    itemBack i bs at_ = (true, at_ + i.bytes.length, 0) := by
  unfold itemBack
  unfold Itm.bytes itemBytes at *
  split
  · rename_i h
    simp only [h, if_true] at *
    rw [rnum_full hD hle (by omega) (by omega)]
    simp [be_length]; omega
  · split
    · rename_i h1 h
      simp only [h, if_true] at *
      rw [if_neg (by decide)] at hD
      rw [rnum_full hD hle (by omega) (by omega)]
      simp [be_length]; omega
    · split
      · rename_i h1 h2 h
        simp only [h, if_true] at *
        rw [if_neg (by decide), if_neg (by decide)] at hD
        have hb : 0 ≤ boolNum i.On ∧ boolNum i.On ≤ 1 := by unfold boolNum; split <;> omega
        unfold rbool
        rw [rnum_full hD hle (by omega) (by omega)]
        cases i.On <;> simp [boolNum, be_length]
      · split
        · rename_i h1 h2 h3 h
          simp only [h, if_true] at *
          rw [if_neg (by decide), if_neg (by decide), if_neg (by decide)] at hD
          rw [rbytes_full hD hle hx]
          simp
        · rename_i h1 h2 h3 h4
          simp only [h1, h2, h3, h4, if_false] at *
          rw [rfixed_full hD hle]
          simp

theorem itemBack_cut {i : Itm} {bs suf : List UInt8} {at_ m : Nat} (hD : bs.drop at_ = (i.bytes ++ suf).take m) (hle : at_ ≤ bs.length) (hm : m < i.bytes.length) (hx : i.bs.length < 4294967296) :
    (itemBack i bs at_).2.2 ≠ 0 := by
  have hl : bs.length = at_ + m := by
    have h := congrArg List.length hD
    simp at h
    omega
  unfold itemBack
  unfold Itm.bytes itemBytes at *
  split
  · rename_i h
    simp only [h, if_true, be_length] at *
    rw [rnum_cut (by omega)]
    simp
  · split
    · rename_i h1 h
      simp only [h, if_true] at *
      rw [if_neg (by decide), be_length] at hm
      rw [rnum_cut (by omega)]
      simp
    · split
      · rename_i h1 h2 h
        simp only [h, if_true] at *
        rw [if_neg (by decide), if_neg (by decide), be_length] at hm
        unfold rbool
        rw [rnum_cut (by omega)]
        simp
      · split
        · rename_i h1 h2 h3 h
          simp only [h, if_true] at *
          rw [if_neg (by decide), if_neg (by decide), if_neg (by decide)] at hD hm
          exact rbytes_cut hD hle hm hx
        · rename_i h1 h2 h3 h4
          simp only [h1, h2, h3, h4, if_false] at *
          rw [rfixed_cut (by omega)]
          simp

theorem backGo_full : ∀ (l : List Itm) (bs pre suf : List UInt8), (∀ i ∈ l, (0 ≤ i.V ∧ i.V < 18446744073709551616) ∧ i.bs.length < 4294967296) → bs = pre ++ l.flatMap Itm.bytes → backGo bs l pre.length = true
  | [], bs, pre, _, _, h => by simp [backGo, h]
  | i :: l, bs, pre, suf, hg, h => by
    have hD : bs.drop pre.length = i.bytes ++ l.flatMap Itm.bytes := by rw [h, List.drop_left' rfl]; rfl
    have h1 := itemBack_full hD (by rw [h]; simp) (hg i (by simp)).1 (hg i (by simp)).2
    unfold backGo
    rw [h1]
    simp only [and_self, if_true]
    have h2 := backGo_full l bs (pre ++ i.bytes) suf (fun j hj => hg j (by simp [hj])) (by rw [h]; simp)
    rwa [List.length_append] at h2

theorem backGo_cut : ∀ (l : List Itm) (bs pre : List UInt8) (m : Nat), (∀ i ∈ l, (0 ≤ i.V ∧ i.V < 18446744073709551616) ∧ i.bs.length < 4294967296) → m < (l.flatMap Itm.bytes).length → bs = pre ++ (l.flatMap Itm.bytes).take m → backGo bs l pre.length = false
  | [], _, _, _, _, hm, _ => by simp at hm
  | i :: l, bs, pre, m, hg, hm, h => by
    have hD : bs.drop pre.length = (i.bytes ++ l.flatMap Itm.bytes).take m := by rw [h, List.drop_left' rfl]; rfl
    have hle : pre.length ≤ bs.length := by rw [h]; simp
    unfold backGo
    rcases Nat.lt_or_ge m i.bytes.length with hlt | hge
    · have h1 := itemBack_cut hD hle hlt (hg i (by simp)).2
      rw [if_neg (fun hh => h1 hh.2)]
    · have hD2 : bs.drop pre.length = i.bytes ++ (l.flatMap Itm.bytes).take (m - i.bytes.length) := by
        rw [hD, List.take_append, List.take_of_length_le hge]
      have h1 := itemBack_full hD2 hle (hg i (by simp)).1 (hg i (by simp)).2
      rw [h1]
      simp only [and_self, if_true]
      have h2 := backGo_cut l bs (pre ++ i.bytes) (m - i.bytes.length) (fun j hj => hg j (by simp [hj])) (by simp at hm ⊢; omega) (by
        have h3 : bs = pre ++ bs.drop pre.length := by rw [hD, h]; rfl
        rw [h3, hD2, List.append_assoc])
      rwa [List.length_append] at h2

theorem pad_four (n : Nat) : (n + pad n) % 4 = 0 := by unfold pad; omega
theorem item_four (i : Itm) : i.bytes.length % 4 = 0 := by
  have h1 := pad_four i.bs.length
  have h2 := padded_len i.bs
  have h3 := row_len i.bs
  unfold Itm.bytes itemBytes
  split
  · simp [be_length]
  · split
    · simp [be_length]
    · split
      · simp [be_length]
      · split <;> omega
theorem items_four (l : List Itm) : (l.flatMap Itm.bytes).length % 4 = 0 := by
  induction l with
  | nil => rfl
  | cons i l ih => rw [List.flatMap_cons, List.length_append]; have := item_four i; omega

end Go.Proofs.Ytafnialikielkaa
