/- What the coder writes it reads again. Plain, no program. -/
import Derived.Test.YtanknjpcgceccaaGen11
namespace Go.Proofs.Ytanknjpcgceccaa

theorem u8_toNat (x : Int) : (u8 x).toNat = (x % 256).toNat := by
  unfold u8
  rw [UInt8.toNat_ofNat']
  have h : 0 ≤ x % 256 ∧ x % 256 < 256 := by omega
  omega

theorem be_succ (n : Nat) (v : Int) : be (n + 1) v = be n (v / 256) ++ [u8 v] := by
  unfold be
  rw [List.range_succ, List.map_append]
  congr 1
  · refine List.map_congr_left fun j hj => ?_
    have hj' := List.mem_range.1 hj
    have h1 : 8 * (n + 1 - 1 - j) = 8 + 8 * (n - 1 - j) := by omega
    rw [h1, Int.ediv_ediv_of_nonneg (by decide)]
    congr 2
    rw [Int.pow_add]
    rfl
  · simp
theorem beval_be (n : Nat) : ∀ v : Int, 0 ≤ v → v < 256 ^ n → (beval (be n v) : Int) = v := by
  induction n with
  | zero => intro v h1 h2; simp [be, beval] at *; omega
  | succ n ih =>
    intro v h1 h2
    rw [be_succ, beval_snoc, u8_toNat]
    have h3 := ih (v / 256) (by omega) (by rw [Int.pow_succ] at h2; omega)
    rw [Int.natCast_add, Int.natCast_mul, h3]
    omega

theorem drop_len {bs X suf : List UInt8} {at_ : Nat} (hD : bs.drop at_ = X ++ suf) (hle : at_ ≤ bs.length) : bs.length = at_ + X.length + suf.length := by
  have h := congrArg List.length hD
  simp at h
  omega

theorem rnum_full {n : Nat} {v : Int} {bs suf : List UInt8} {at_ : Nat} (hD : bs.drop at_ = be n v ++ suf) (hle : at_ ≤ bs.length) (h1 : 0 ≤ v) (h2 : v < 256 ^ n) : rnum n bs at_ 0 = (v.toNat, at_ + n, 0) := by
  have hl := drop_len hD hle
  rw [be_length] at hl
  unfold rnum
  rw [if_pos rfl, if_pos (by omega), hD, List.take_left' (be_length n v)]
  have h3 := beval_be n v h1 h2
  have h4 : beval (be n v) = v.toNat := by omega
  rw [h4]
theorem rnum_cut {n : Nat} {bs : List UInt8} {at_ : Nat} (h : bs.length < at_ + n) : rnum n bs at_ 0 = (0, at_, 11) := by
  unfold rnum
  rw [if_pos rfl, if_neg (by omega)]

theorem padded_len (xs : List UInt8) : (padded xs).length = xs.length + pad xs.length := by simp [padded]

theorem rfixed_full {xs bs suf : List UInt8} {at_ : Nat} (hD : bs.drop at_ = padded xs ++ suf) (hle : at_ ≤ bs.length) : rfixed xs.length bs at_ 0 = (xs, at_ + (padded xs).length, 0) := by
  have hl := drop_len hD hle
  rw [padded_len] at hl ⊢
  unfold rfixed
  simp only [Int.toNat_natCast, if_true]
  rw [if_neg (by omega), if_neg (by omega)]
  have h1 : (bs.drop (at_ + xs.length)).take (pad xs.length) = List.replicate (pad xs.length) 0 := by
    rw [← List.drop_drop, hD]
    simp only [padded, List.append_assoc]
    rw [List.drop_left' rfl, List.take_left' (by simp)]
  have h2 : (bs.drop at_).take xs.length = xs := by
    rw [hD]
    simp only [padded, List.append_assoc]
    rw [List.take_left' rfl]
  rw [h1, h2, if_pos (by simp)]
theorem rfixed_cut {xs bs : List UInt8} {at_ : Nat} (h : bs.length < at_ + (padded xs).length) : rfixed xs.length bs at_ 0 = ([], at_, 11) := by
  rw [padded_len] at h
  unfold rfixed
  simp only [Int.toNat_natCast, if_true]
  rw [if_neg (by omega), if_pos (by omega)]

theorem row_len (xs : List UInt8) : (row xs).length = 4 + (padded xs).length := by simp [row, be_length]
theorem rbytes_full {xs bs suf : List UInt8} {at_ : Nat} (hD : bs.drop at_ = row xs ++ suf) (hle : at_ ≤ bs.length) (hx : xs.length < 4294967296) {most : Int} (hmost : (xs.length : Int) ≤ most) : rbytes most bs at_ 0 = (xs, at_ + (row xs).length, 0) := by
  have hl := drop_len hD hle
  rw [row_len] at hl ⊢
  have h1 : bs.drop at_ = be 4 xs.length ++ (padded xs ++ suf) := by rw [hD]; simp [row]
  have h2 : bs.drop (at_ + 4) = padded xs ++ suf := by rw [← List.drop_drop, h1, List.drop_left' (be_length _ _)]
  have h3 := rnum_full h1 hle (by omega) (by omega)
  have h4 := rfixed_full h2 (by omega)
  unfold rbytes
  simp only [h3, Int.toNat_natCast, h4]
  rw [if_pos trivial, if_neg (by omega)]
  simp [Nat.add_assoc]

theorem drop_pre {out d inp : List UInt8} (h : (out ++ d) <+: inp) : ∃ suf, inp.drop out.length = d ++ suf ∧ out.length ≤ inp.length := by
  obtain ⟨suf, rfl⟩ := h
  exact ⟨suf, by rw [List.append_assoc, List.drop_left' rfl], by simp⟩

/-- What was written is read: cells S are the same behind; every cell is the same behind, or was left. -/
def Sync (lay : List Ty) (f : X → X) (S : List Nat) : Prop := ∀ (A : Cells) (b : Bool) (out : List UInt8), Typed lay A → ∃ b' d A', f (.wr b out, A) = (.wr b' (out ++ d), A') ∧ Typed lay A' ∧
  (∀ j, A' j = A j ∨ ((∃ v, A j = some (.int .u32 v)) ∧ A' j = some (.int .u32 0))) ∧
  (b' = false → b = false ∧ ∀ (inp : List UInt8) (Z : Cells), Typed lay Z → (out ++ d) <+: inp → ∃ Z', f (.rd inp out.length 0 false, Z) = (.rd inp (out ++ d).length 0 false, Z') ∧ Typed lay Z' ∧ (∀ j ∈ S, Z' j = A' j) ∧ (∀ j, Z' j = A' j ∨ (Z' j = Z j ∧ A' j = A j)))

theorem sync_id (lay : List Ty) : Sync lay (fun x => x) [] := fun A b out hA => ⟨b, [], A, by simp, hA, fun j => .inl rfl, fun hb => ⟨hb, fun inp Z hZ _ => ⟨Z, by simp, hZ, fun j hj => by simp at hj, fun j => .inr ⟨rfl, rfl⟩⟩⟩⟩

theorem sync_comp {lay : List Ty} {f g : X → X} {S T : List Nat} (hf : Sync lay f S) (hg : Sync lay g T) : Sync lay (fun x => g (f x)) (S ++ T) := by
  intro A b out hA
  obtain ⟨b1, d1, A1, e1, t1, k1, r1⟩ := hf A b out hA
  obtain ⟨b2, d2, A2, e2, t2, k2, r2⟩ := hg A1 b1 (out ++ d1) t1
  refine ⟨b2, d1 ++ d2, A2, by simp only [e1, e2, List.append_assoc], t2, fun j => ?_, fun hb => ?_⟩
  · rcases k2 j with h | ⟨⟨v, h⟩, h'⟩
    · rw [h]; exact k1 j
    · rcases k1 j with h1 | ⟨h1, h1'⟩
      · exact .inr ⟨⟨v, h1 ▸ h⟩, h'⟩
      · exact .inr ⟨h1, h'⟩
  · obtain ⟨hb1, q2⟩ := r2 hb
    obtain ⟨hb0, q1⟩ := r1 hb1
    refine ⟨hb0, fun inp Z hZ hp => ?_⟩
    rw [← List.append_assoc] at hp
    obtain ⟨Z1, z1, tz1, s1, u1⟩ := q1 inp Z hZ ((List.prefix_append _ _).trans hp)
    obtain ⟨Z2, z2, tz2, s2, u2⟩ := q2 inp Z1 tz1 hp
    refine ⟨Z2, by simp only [z1, z2, List.append_assoc], tz2, fun j hj => ?_, fun j => ?_⟩
    · rcases List.mem_append.1 hj with hj | hj
      · rcases u2 j with h | ⟨h, h'⟩
        · exact h
        · rw [h, h', s1 j hj]
      · exact s2 j hj
    · rcases u2 j with h | ⟨h, h'⟩
      · exact .inl h
      · rcases u1 j with h1 | ⟨h1, h1'⟩
        · exact .inl (by rw [h, h', h1])
        · exact .inr ⟨by rw [h, h1], by rw [h', h1']⟩

/-- A choice by a truth that was read. -/
theorem sync_if {lay : List Ty} {f h : X → X} {S T : List Nat} {o : Nat} (ho : o ∈ S) (hh : Sync lay h S) (hf : Sync lay f T) : Sync lay (fun x => pIf o f (h x)) S := by
  intro A b out hA
  obtain ⟨b1, d1, A1, e1, t1, k1, r1⟩ := hh A b out hA
  by_cases hc : bv (A1 o) = true
  · obtain ⟨b2, d2, A2, e2, t2, k2, r2⟩ := sync_comp hh hf A b out hA
    refine ⟨b2, d2, A2, by simp only [pIf, e1, hc, if_true]; simpa only [e1] using e2, t2, k2, fun hb => ?_⟩
    obtain ⟨hb0, q2⟩ := r2 hb
    refine ⟨hb0, fun inp Z hZ hp => ?_⟩
    obtain ⟨Z2, z2, tz2, s2, u2⟩ := q2 inp Z hZ hp
    have hpre : (out ++ d1) <+: inp ∧ b1 = false := by
      obtain ⟨b3, d3, A3, e3, t3, k3, r3⟩ := hf A1 b1 (out ++ d1) t1
      have e2' : f (.wr b1 (out ++ d1), A1) = (.wr b2 (out ++ d2), A2) := by simpa only [e1] using e2
      rw [e3] at e2'
      simp only [Prod.mk.injEq, St.wr.injEq] at e2'
      obtain ⟨⟨rfl, h3⟩, _⟩ := e2'
      exact ⟨(List.prefix_append _ _).trans (h3 ▸ hp), (r3 hb).1⟩
    obtain ⟨Z1, z1, tz1, s1, u1⟩ := (r1 hpre.2).2 inp Z hZ hpre.1
    have hz : bv (Z1 o) = true := by rw [s1 o ho]; exact hc
    refine ⟨Z2, ?_, tz2, fun j hj => s2 j (List.mem_append_left _ hj), u2⟩
    simp only [pIf, z1, hz, if_true]
    simpa only [z1] using z2
  · refine ⟨b1, d1, A1, by simp only [pIf, e1, hc]; rfl, t1, k1, fun hb => ?_⟩
    obtain ⟨hb0, q1⟩ := r1 hb
    refine ⟨hb0, fun inp Z hZ hp => ?_⟩
    obtain ⟨Z1, z1, tz1, s1, u1⟩ := q1 inp Z hZ hp
    have hz : ¬ bv (Z1 o) = true := by rw [s1 o ho]; exact hc
    exact ⟨Z1, by simp only [pIf, z1, hz]; rfl, tz1, s1, u1⟩

theorem sync_num {lay : List Ty} {n : Nat} {k : IntKind} {o : Nat} (hT : ∀ A, Typed lay A → IntAt k n A o) (hU : ∀ A v, Typed lay A → (0 ≤ v ∧ v < ((256 ^ n : Nat) : Int)) → Typed lay (upd A o (.int k v))) : Sync lay (num1 n k o) [o] := by
  intro A b out hA
  have h := (hT A hA).iv
  refine ⟨b, be n (iv (A o)), A, by simp only [num1, St.num, upd_self h.1], hA, fun j => .inl rfl, fun hb => ⟨hb, fun inp Z hZ hp => ?_⟩⟩
  obtain ⟨suf, h1, h2⟩ := drop_pre hp
  have hr := rnum_full h1 h2 h.2.1 (by simpa using h.2.2)
  refine ⟨upd Z o (.int k (iv (A o))), ?_, hU Z _ hZ h.2, fun j hj => ?_, fun j => ?_⟩
  · simp only [num1, St.num, hr]
    rw [Int.toNat_of_nonneg h.2.1]
    simp [be_length]
  · simp only [List.mem_singleton] at hj
    subst hj
    rw [upd_at, ← h.1]
  · by_cases e : j = o
    · subst e; exact .inl (by rw [upd_at, ← h.1])
    · exact .inr ⟨upd_ne _ _ e, rfl⟩
theorem sync_u32 {lay : List Ty} {o : Nat} (ho : lay[o]? = some .u32) : Sync lay (num1 4 .u32 o) [o] := sync_num (fun A h => h o _ ho) fun A v h hv => h.upd' ho ⟨v, rfl, hv⟩
theorem sync_u64 {lay : List Ty} {o : Nat} (ho : lay[o]? = some .u64) : Sync lay (num1 8 .u64 o) [o] := sync_num (fun A h => h o _ ho) fun A v h hv => h.upd' ho ⟨v, rfl, hv⟩
theorem sync_u32s {lay : List Ty} {o p : Nat} (ho : lay[o]? = some .u32) (hp : lay[p]? = some .u32) : Sync lay (nums 4 .u32 [o, p]) [o, p] := sync_comp (sync_u32 ho) (sync_u32 hp)
theorem sync_u64s {lay : List Ty} {o p : Nat} (ho : lay[o]? = some .u64) (hp : lay[p]? = some .u64) : Sync lay (nums 8 .u64 [o, p]) [o, p] := sync_comp (sync_u64 ho) (sync_u64 hp)
theorem sync_truth {lay : List Ty} {o : Nat} (ho : lay[o]? = some .bool) : Sync lay (pTruth o) [o] := by
  intro A b out hA
  have h := (hA o _ ho).bv
  refine ⟨b, be 4 (boolNum (bv (A o))), A, by simp only [pTruth, St.truth, upd_self h], hA, fun j => .inl rfl, fun hb => ⟨hb, fun inp Z hZ hp => ?_⟩⟩
  obtain ⟨suf, h1, h2⟩ := drop_pre hp
  have hr := rnum_full h1 h2 (by cases bv (A o) <;> simp [boolNum]) (by cases bv (A o) <;> simp [boolNum])
  have hb : rbool inp out.length 0 = (bv (A o), out.length + 4, 0) := by
    simp only [rbool, hr]
    cases bv (A o) <;> simp [boolNum]
  refine ⟨upd Z o (.bool (bv (A o))), ?_, hZ.upd' ho ⟨_, rfl⟩, fun j hj => ?_, fun j => ?_⟩
  · simp only [pTruth, St.truth, hb]
    simp [be_length]
  · simp only [List.mem_singleton] at hj
    subst hj
    rw [upd_at, ← h]
  · by_cases e : j = o
    · subst e; exact .inl (by rw [upd_at, ← h])
    · exact .inr ⟨upd_ne _ _ e, rfl⟩
theorem sync_number {lay : List Ty} {o : Nat} {lo hi : Int} (h0 : 0 ≤ lo) (h1 : hi < 4294967296) (ho : lay[o]? = some .int) : Sync lay (pNumber lo hi o) [o] := by
  intro A b out hA
  have h := (hA o _ ho).iv
  refine ⟨b || !decide (lo ≤ iv (A o) ∧ iv (A o) ≤ hi), be 4 (IntKind.u32.wrap (iv (A o))), A, by simp only [pNumber, St.number, St.must, St.num, upd_self h], hA, fun j => .inl rfl, fun hb => ?_⟩
  simp only [Bool.or_eq_false_iff, Bool.not_eq_false', decide_eq_true_eq] at hb
  obtain ⟨hb, hl, hh⟩ := hb
  refine ⟨hb, fun inp Z hZ hp => ?_⟩
  have hw : IntKind.u32.wrap (iv (A o)) = iv (A o) := by rw [IntKind.wrap_u32]; omega
  rw [hw] at hp ⊢
  obtain ⟨suf, p1, p2⟩ := drop_pre hp
  have hr := rnum_full p1 p2 (by omega) (by omega)
  refine ⟨upd Z o (.int .i64 (iv (A o))), ?_, hZ.upd' ho ⟨_, rfl⟩, fun j hj => ?_, fun j => ?_⟩
  · simp only [pNumber, St.number, St.num, hr, St.must]
    rw [Int.toNat_of_nonneg (by omega)]
    simp [be_length, hl, hh]
  · simp only [List.mem_singleton] at hj
    subst hj
    rw [upd_at, ← h]
  · by_cases e : j = o
    · subst e; exact .inl (by rw [upd_at, ← h])
    · exact .inr ⟨upd_ne _ _ e, rfl⟩
theorem sync_text {lay : List Ty} {o : Nat} {most : Int} (hm : most ≤ 2000000) (ho : lay[o]? = some .str) : Sync lay (pText most o) [o] := by
  intro A b out hA
  have h := (hA o _ ho).sv
  refine ⟨b || !decide (((sv (A o)).length : Int) ≤ most), row (sv (A o)), A, by simp only [pText, St.row, upd_self h.1], hA, fun j => .inl rfl, fun hb => ?_⟩
  simp only [Bool.or_eq_false_iff, Bool.not_eq_false', decide_eq_true_eq] at hb
  obtain ⟨hb, hl⟩ := hb
  refine ⟨hb, fun inp Z hZ hp => ?_⟩
  obtain ⟨suf, p1, p2⟩ := drop_pre hp
  have hr := rbytes_full p1 p2 (by omega) hl
  refine ⟨upd Z o (.string (str (sv (A o)))), ?_, hZ.upd' ho ⟨_, rfl, h.2⟩, fun j hj => ?_, fun j => ?_⟩
  · simp only [pText, St.row, hr]
    simp
  · simp only [List.mem_singleton] at hj
    subst hj
    rw [upd_at, ← h.1]
  · by_cases e : j = o
    · subst e; exact .inl (by rw [upd_at, ← h.1])
    · exact .inr ⟨upd_ne _ _ e, rfl⟩

end Go.Proofs.Ytanknjpcgceccaa
