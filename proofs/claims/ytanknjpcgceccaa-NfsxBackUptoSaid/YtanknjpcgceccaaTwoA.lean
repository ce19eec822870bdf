/- What the coder writes it reads again; what it reads it writes again as the same bytes: the steps. Plain, no program. -/
import Derived.Test.YtanknjpcgceccaaSync
import Derived.Test.YtanknjpcgceccaaLines
namespace Go.Proofs.Ytanknjpcgceccaa

/-! ### Bytes that were read -/
theorem be_beval : ∀ (n : Nat) (l : List UInt8), l.length = n → be n (beval l : Int) = l := by
  intro n
  induction n with
  | zero => intro l hl; have : l = [] := List.eq_nil_of_length_eq_zero hl; subst this; rfl
  | succ n ih =>
    intro l hl
    have hne : l ≠ [] := by intro e; subst e; simp at hl
    obtain ⟨m, x, rfl⟩ : ∃ m x, l = m ++ [x] := ⟨l.dropLast, l.getLast hne, (List.dropLast_concat_getLast hne).symm⟩
    have hx := x.toNat_lt
    rw [be_succ, beval_snoc]
    have h1 : (((beval m * 256 + x.toNat : Nat) : Int) / 256) = (beval m : Int) := by omega
    have h2 : u8 ((beval m * 256 + x.toNat : Nat) : Int) = x := by
      apply UInt8.toNat_inj.1
      rw [u8_toNat]
      omega
    rw [h1, h2, ih m (by simpa using hl)]
theorem rnum_back {n : Nat} {inp : List UInt8} {pos v p2 : Nat} (h : rnum n inp pos 0 = (v, p2, 0)) : p2 = pos + n ∧ p2 ≤ inp.length ∧ be n (v : Int) = (inp.drop pos).take (p2 - pos) ∧ v < 256 ^ n := by
  unfold rnum at h
  rw [if_pos rfl] at h
  split at h
  · simp only [Prod.mk.injEq, and_true] at h
    obtain ⟨rfl, rfl⟩ := h
    have hl : ((inp.drop pos).take n).length = n := by rw [List.length_take, List.length_drop]; omega
    refine ⟨rfl, by assumption, ?_, ?_⟩
    · rw [be_beval n _ hl, Nat.add_sub_cancel_left]
    · have := beval_lt ((inp.drop pos).take n); rwa [hl] at this
  · simp at h
theorem take_all0 {l : List UInt8} (h : l.all (· == 0) = true) : l = List.replicate l.length 0 := by
  rw [List.eq_replicate_iff]
  exact ⟨rfl, fun b hb => by have := List.all_eq_true.1 h b hb; simpa using this⟩
theorem pad_four (n : Nat) : (n + pad n) % 4 = 0 := by unfold pad; omega
theorem rbytes_back {most : Int} {inp : List UInt8} {pos p2 : Nat} {xs : List UInt8} (h : rbytes most inp pos 0 = (xs, p2, 0)) : pos ≤ p2 ∧ p2 ≤ inp.length ∧ row xs = (inp.drop pos).take (p2 - pos) ∧ (xs.length : Int) ≤ most := by
  unfold rbytes at h
  simp only at h
  split at h
  · rename_i he
    split at h
    · simp at h
    · rename_i hm
      obtain ⟨⟨m, p1, e1⟩, hr⟩ : ∃ r : Nat × Nat × Int, rnum 4 inp pos 0 = r := ⟨_, rfl⟩
      rw [hr] at h he hm
      simp only at h he hm
      subst he
      obtain ⟨q1, q2, q3, q4⟩ := rnum_back hr
      split at h
      · rename_i hf
        unfold rfixed at h hf
        rw [if_pos rfl] at h hf
        split at h
        · simp at h
        · rename_i h0
          rw [if_neg h0] at hf
          split at h
          · simp at h
          · rename_i h1
            split at h
            · rename_i h2
              simp only [Prod.mk.injEq, and_true, Int.toNat_natCast] at h
              simp only [Int.toNat_natCast] at h1 h2
              obtain ⟨rfl, rfl⟩ := h
              have hl : ((inp.drop p1).take m).length = m := by rw [List.length_take, List.length_drop]; omega
              have hpl : ((inp.drop (p1 + m)).take (pad m)).length = pad m := by rw [List.length_take, List.length_drop]; omega
              have hp := take_all0 h2
              rw [hpl] at hp
              refine ⟨by omega, by omega, ?_, by rw [hl]; omega⟩
              unfold row padded
              rw [hl, q3, ← hp]
              rw [show p1 + (m + pad m) - pos = (p1 - pos) + (m + pad m) by omega, List.take_add, List.drop_drop, show pos + (p1 - pos) = p1 by omega, List.take_add, List.drop_drop]
            · simp at h
      · simp only [Prod.mk.injEq] at h
        exact absurd h.2.2 (by assumption)
  · rename_i he
    simp only [Prod.mk.injEq] at h
    exact absurd h.2.2 he
theorem row_four (xs : List UInt8) : (row xs).length % 4 = 0 := by
  have := pad_four xs.length
  rw [row_len, padded_len]; omega

/-! ### Steps -/
/-- Nothing is wrong so far. -/
def Clean : St → Prop
  | .wr b _ => b = false
  | .rd _ _ e b => e = 0 ∧ b = false
theorem rnum_err {n : Nat} {inp : List UInt8} {pos : Nat} {err : Int} (h : (rnum n inp pos err).2.2 = 0) : err = 0 := by
  unfold rnum at h
  split at h
  · assumption
  · exact h
theorem rbool_err {inp : List UInt8} {pos : Nat} {err : Int} (h : (rbool inp pos err).2.2 = 0) : err = 0 := by
  unfold rbool at h
  simp only at h
  split at h
  · simp at h
  · exact rnum_err h
theorem rbytes_err {most : Int} {inp : List UInt8} {pos : Nat} {err : Int} (h : (rbytes most inp pos err).2.2 = 0) : err = 0 := by
  unfold rbytes at h
  simp only at h
  split at h
  · exact rnum_err (by assumption)
  · rename_i he; exact absurd h he
theorem clean_must {s : St} {b : Bool} (h : Clean (s.must b)) : Clean s ∧ b = true := by
  cases s <;> simp_all [Clean, St.must]
theorem clean_num {s : St} {n : Nat} {v : Int} (h : Clean (s.num n v).2) : Clean s := by
  cases s
  · exact h
  · exact ⟨rnum_err h.1, h.2⟩
theorem clean_truth {s : St} {v : Bool} (h : Clean (s.truth v).2) : Clean s := by
  cases s
  · exact h
  · exact ⟨rbool_err h.1, h.2⟩
theorem clean_row {s : St} {most : Int} {xs : List UInt8} (h : Clean (s.row most xs).2) : Clean s := by
  cases s
  · simp only [St.row, Clean, Bool.or_eq_false_iff] at h; exact h.1
  · exact ⟨rbytes_err h.1, h.2⟩
theorem clean_number {s : St} {lo hi v : Int} (h : Clean (s.number lo hi v).2) : Clean s := by
  cases s with
  | wr b o => exact (clean_must (clean_num h)).1
  | rd i p e b => exact clean_num (s := .rd i p e b) (n := 4) (v := IntKind.u32.wrap v) (clean_must (s := ((St.rd i p e b).num 4 (IntKind.u32.wrap v)).2) (b := decide (lo ≤ ((St.rd i p e b).num 4 (IntKind.u32.wrap v)).1 ∧ ((St.rd i p e b).num 4 (IntKind.u32.wrap v)).1 ≤ hi)) h).1
theorem clean_wr {s t : St} {out : List UInt8} (h : Clean s) (hl : Like s t) (ht : t.isWr = true) : ∃ o, s = .wr false o := by
  cases s with
  | wr b o => obtain rfl : b = false := h; exact ⟨o, rfl⟩
  | rd i p e b => have := hl.1; rw [ht] at this; cases this
theorem clean_rd {s : St} {inp : List UInt8} {pos : Nat} {err : Int} {bad : Bool} (h : Clean s) (hl : Like s (.rd inp pos err bad)) : ∃ p, s = .rd inp p 0 false := by
  cases s with
  | wr b o => have := hl.1; cases this
  | rd i p e b =>
    obtain ⟨rfl, rfl⟩ := h
    have : i = inp := hl.2
    subst this
    exact ⟨p, rfl⟩

/-- A step, both ways. S: cells that are the same behind, read or written; T: all that it looks at or changes. -/
structure Two (lay : List Ty) (S T : List Nat) (f : X → X) : Prop where
  sub : ∀ j ∈ S, j ∈ T
  like : ∀ x, Like (f x).1 x.1
  clean : ∀ x, Clean (f x).1 → Clean x.1
  fr : ∀ x j, j ∉ T → (f x).2 j = x.2 j
  ty : ∀ x, Typed lay x.2 → Typed lay (f x).2
  wr : ∀ A out out2, Typed lay A → (f (.wr false out, A)).1 = .wr false out2 → ∃ d, out2 = out ++ d ∧ d.length % 4 = 0 ∧ ∀ inp Z, Typed lay Z → (out ++ d) <+: inp →
    (f (.rd inp out.length 0 false, Z)).1 = .rd inp (out ++ d).length 0 false ∧ ∀ j ∈ S, (f (.rd inp out.length 0 false, Z)).2 j = (f (.wr false out, A)).2 j
  back : ∀ inp pos A p2, Typed lay A → pos ≤ inp.length → (f (.rd inp pos 0 false, A)).1 = .rd inp p2 0 false → pos ≤ p2 ∧ p2 ≤ inp.length ∧
    ∀ B out, Typed lay B → (∀ j ∈ T, B j = (f (.rd inp pos 0 false, A)).2 j) → f (.wr false out, B) = (.wr false (out ++ (inp.drop pos).take (p2 - pos)), B)

theorem take_two (l : List UInt8) {a b c : Nat} (h1 : a ≤ b) (h2 : b ≤ c) : (l.drop a).take (b - a) ++ (l.drop b).take (c - b) = (l.drop a).take (c - a) := by
  rw [show c - a = (b - a) + (c - b) by omega, List.take_add, List.drop_drop, show a + (b - a) = b by omega]

section
variable {lay : List Ty}
theorem two_id : Two lay [] [] (fun x => x) where
  sub := fun _ h => h
  like := fun _ => Like.refl _
  clean := fun _ h => h
  fr := fun _ _ _ => rfl
  ty := fun _ h => h
  wr := fun A out out2 hA h => ⟨[], by simp only [St.wr.injEq, true_and] at h; rw [← h, List.append_nil], rfl, fun inp Z hZ hp => ⟨by simp, fun j hj => by simp at hj⟩⟩
  back := fun inp pos A p2 hA hle h => by
    simp only [St.rd.injEq, true_and, and_true] at h
    subst h
    exact ⟨Nat.le_refl _, hle, fun B out hB hT => by simp⟩

theorem two_comp {S T S' T' : List Nat} {f g : X → X} (hf : Two lay S T f) (hg : Two lay S' T' g) (hd : ∀ j ∈ T, j ∉ T') : Two lay (S ++ S') (T ++ T') (fun x => g (f x)) where
  sub := fun j hj => by
    rcases List.mem_append.1 hj with h | h
    · exact List.mem_append_left _ (hf.sub j h)
    · exact List.mem_append_right _ (hg.sub j h)
  like := fun x => (hg.like _).trans (hf.like _)
  clean := fun x h => hf.clean x (hg.clean _ h)
  fr := fun x j hj => by
    rw [List.mem_append, not_or] at hj
    rw [hg.fr _ j hj.2, hf.fr _ j hj.1]
  ty := fun x h => hg.ty _ (hf.ty _ h)
  wr := fun A out out2 hA h => by
    have hc : Clean (f (.wr false out, A)).1 := hg.clean _ (by rw [h]; exact rfl)
    obtain ⟨o1, h1⟩ := clean_wr (out := []) hc (hf.like _) rfl
    obtain ⟨d1, rfl, m1, r1⟩ := hf.wr A out o1 hA h1
    have hA1 := hf.ty (.wr false out, A) hA
    have e1 : f (.wr false out, A) = (.wr false (out ++ d1), (f (.wr false out, A)).2) := Prod.ext h1 rfl
    rw [e1] at h
    obtain ⟨d2, rfl, m2, r2⟩ := hg.wr _ _ _ hA1 h
    refine ⟨d1 ++ d2, by rw [List.append_assoc], by rw [List.length_append]; omega, fun inp Z hZ hp => ?_⟩
    rw [← List.append_assoc] at hp
    obtain ⟨z1, s1⟩ := r1 inp Z hZ ((List.prefix_append _ _).trans hp)
    have hZ1 := hf.ty (.rd inp out.length 0 false, Z) hZ
    have e2 : f (.rd inp out.length 0 false, Z) = (.rd inp (out ++ d1).length 0 false, (f (.rd inp out.length 0 false, Z)).2) := Prod.ext z1 rfl
    obtain ⟨z2, s2⟩ := r2 inp _ hZ1 hp
    refine ⟨?_, fun j hj => ?_⟩
    · show (g (f (.rd inp out.length 0 false, Z))).1 = _
      rw [e2, z2, List.append_assoc]
    · show (g (f (.rd inp out.length 0 false, Z))).2 j = (g (f (.wr false out, A))).2 j
      rcases List.mem_append.1 hj with hj | hj
      · have hn := hd j (hf.sub j hj)
        rw [hg.fr _ j hn, hg.fr _ j hn]
        exact s1 j hj
      · rw [e2, e1]
        exact s2 j hj
  back := fun inp pos A p2 hA hle h => by
    have hc : Clean (f (.rd inp pos 0 false, A)).1 := hg.clean _ (by rw [h]; exact ⟨rfl, rfl⟩)
    obtain ⟨p1, h1⟩ := clean_rd hc (hf.like _)
    obtain ⟨a1, a2, a3⟩ := hf.back inp pos A p1 hA hle h1
    have hA1 := hf.ty (.rd inp pos 0 false, A) hA
    have e1 : f (.rd inp pos 0 false, A) = (.rd inp p1 0 false, (f (.rd inp pos 0 false, A)).2) := Prod.ext h1 rfl
    rw [e1] at h
    obtain ⟨b1, b2, b3⟩ := hg.back inp p1 _ p2 hA1 a2 h
    refine ⟨Nat.le_trans a1 b1, b2, fun B out hB hT => ?_⟩
    have t1 := a3 B out hB fun j hj => by
      rw [hT j (List.mem_append_left _ hj)]
      exact hg.fr _ j (hd j hj)
    have t2 := b3 B (out ++ (inp.drop pos).take (p1 - pos)) hB fun j hj => by
      rw [hT j (List.mem_append_right _ hj)]
      show (g (f (.rd inp pos 0 false, A))).2 j = _
      rw [e1]
    simp only [t1, t2]
    rw [List.append_assoc, take_two _ a1 b1]

/-- A choice by what was read. -/
theorem two_choice {S T S1 T1 S2 T2 : List Nat} {h f g : X → X} {o : Nat} (c : Option Value → Bool) (hh : Two lay S T h) (ho : o ∈ S) (hf : Two lay S1 T1 f) (hg : Two lay S2 T2 g) (d1 : ∀ j ∈ T, j ∉ T1) (d2 : ∀ j ∈ T, j ∉ T2) :
    Two lay S (T ++ (T1 ++ T2)) (fun x => if c ((h x).2 o) then f (h x) else g (h x)) := by
  have hT := hh.sub o ho
  have cf := two_comp hh hf d1
  have cg := two_comp hh hg d2
  have mem1 : ∀ j, j ∉ T ++ (T1 ++ T2) → j ∉ T ++ T1 := fun j hj hm => hj (by rw [List.mem_append] at hm ⊢; rcases hm with h | h; exact .inl h; exact .inr (List.mem_append_left _ h))
  have mem2 : ∀ j, j ∉ T ++ (T1 ++ T2) → j ∉ T ++ T2 := fun j hj hm => hj (by rw [List.mem_append] at hm ⊢; rcases hm with h | h; exact .inl h; exact .inr (List.mem_append_right _ h))
  have key : ∀ (k : X → X) (Sk Tk : List Nat), Two lay Sk Tk k → (∀ j ∈ T, j ∉ Tk) → ∀ A out out2, Typed lay A → (k (h (.wr false out, A))).1 = .wr false out2 → ∃ d, out2 = out ++ d ∧ d.length % 4 = 0 ∧ ∀ inp Z, Typed lay Z → (out ++ d) <+: inp →
      (k (h (.rd inp out.length 0 false, Z))).1 = .rd inp (out ++ d).length 0 false ∧ (h (.rd inp out.length 0 false, Z)).2 o = (h (.wr false out, A)).2 o ∧ ∀ j ∈ S, (k (h (.rd inp out.length 0 false, Z))).2 j = (k (h (.wr false out, A))).2 j := by
    intro k Sk Tk hk dk A out out2 hA hw
    have hc : Clean (h (.wr false out, A)).1 := hk.clean _ (by rw [hw]; exact rfl)
    obtain ⟨o1, h1⟩ := clean_wr (out := []) hc (hh.like _) rfl
    obtain ⟨dd, rfl, _, r1⟩ := hh.wr A out o1 hA h1
    obtain ⟨d, q1, q2, q3⟩ := (two_comp hh hk dk).wr A out out2 hA hw
    refine ⟨d, q1, q2, fun inp Z hZ hp => ?_⟩
    obtain ⟨z1, z2⟩ := q3 inp Z hZ hp
    have e1 : h (.wr false out, A) = (.wr false (out ++ dd), (h (.wr false out, A)).2) := Prod.ext h1 rfl
    rw [e1] at hw
    obtain ⟨d', q1', _, _⟩ := hk.wr _ _ _ (hh.ty (.wr false out, A) hA) hw
    have hpre : (out ++ dd) <+: inp := by
      have : out ++ d = out ++ dd ++ d' := by rw [← q1, q1']
      rw [this] at hp
      exact (List.prefix_append _ _).trans hp
    exact ⟨z1, (r1 inp Z hZ hpre).2 o ho, fun j hj => z2 j (List.mem_append_left _ hj)⟩
  refine ⟨fun j hj => List.mem_append_left _ (hh.sub j hj), fun x => ?_, fun x hx => ?_, fun x j hj => ?_, fun x hx => ?_, fun A out out2 hA hw => ?_, fun inp pos A p2 hA hle hr => ?_⟩
  · show Like (if c ((h x).2 o) then f (h x) else g (h x)).1 x.1
    split
    · exact cf.like x
    · exact cg.like x
  · split at hx
    · exact cf.clean x hx
    · exact cg.clean x hx
  · show (if c ((h x).2 o) then f (h x) else g (h x)).2 j = x.2 j
    split
    · exact cf.fr x j (mem1 j hj)
    · exact cg.fr x j (mem2 j hj)
  · show Typed lay (if c ((h x).2 o) then f (h x) else g (h x)).2
    split
    · exact cf.ty x hx
    · exact cg.ty x hx
  · by_cases hc : c ((h (.wr false out, A)).2 o) = true
    · rw [if_pos hc] at hw
      obtain ⟨d, q1, q2, q3⟩ := key f S1 T1 hf d1 A out out2 hA hw
      refine ⟨d, q1, q2, fun inp Z hZ hp => ?_⟩
      obtain ⟨z1, z2, z3⟩ := q3 inp Z hZ hp
      simp only [z2, hc, if_true]
      exact ⟨z1, z3⟩
    · rw [if_neg hc] at hw
      obtain ⟨d, q1, q2, q3⟩ := key g S2 T2 hg d2 A out out2 hA hw
      refine ⟨d, q1, q2, fun inp Z hZ hp => ?_⟩
      obtain ⟨z1, z2, z3⟩ := q3 inp Z hZ hp
      simp only [z2, hc]
      exact ⟨z1, z3⟩
  · have hwo : ∀ (k : X → X) (Sk Tk : List Nat), Two lay Sk Tk k → (∀ j ∈ T, j ∉ Tk) → (k (h (.rd inp pos 0 false, A))).1 = .rd inp p2 0 false → ∀ B out, Typed lay B → (∀ j ∈ T, B j = (k (h (.rd inp pos 0 false, A))).2 j) → (h (.wr false out, B)).2 o = (h (.rd inp pos 0 false, A)).2 o := by
      intro k Sk Tk hk dk hkr B out hB hTB
      have hc : Clean (h (.rd inp pos 0 false, A)).1 := hk.clean _ (by rw [hkr]; exact ⟨rfl, rfl⟩)
      obtain ⟨p1, h1⟩ := clean_rd hc (hh.like _)
      obtain ⟨_, _, a3⟩ := hh.back inp pos A p1 hA hle h1
      have hag : ∀ j ∈ T, B j = (h (.rd inp pos 0 false, A)).2 j := fun j hj => by rw [hTB j hj]; exact hk.fr _ j (dk j hj)
      rw [a3 B out hB hag]
      exact hag o hT
    by_cases hc : c ((h (.rd inp pos 0 false, A)).2 o) = true
    · simp only [hc, if_true] at hr ⊢
      obtain ⟨a1, a2, a3⟩ := cf.back inp pos A p2 hA hle hr
      refine ⟨a1, a2, fun B out hB hTB => ?_⟩
      rw [hwo f S1 T1 hf d1 hr B out hB fun j hj => hTB j (List.mem_append_left _ hj), hc, if_pos rfl]
      exact a3 B out hB fun j hj => hTB j (by rw [List.mem_append] at hj ⊢; rcases hj with h | h; exact .inl h; exact .inr (List.mem_append_left _ h))
    · simp only [hc] at hr ⊢
      obtain ⟨a1, a2, a3⟩ := cg.back inp pos A p2 hA hle hr
      refine ⟨a1, a2, fun B out hB hTB => ?_⟩
      rw [hwo g S2 T2 hg d2 hr B out hB fun j hj => hTB j (List.mem_append_left _ hj), if_neg hc]
      exact a3 B out hB fun j hj => hTB j (by rw [List.mem_append] at hj ⊢; rcases hj with h | h; exact .inl h; exact .inr (List.mem_append_right _ h))
end

end Go.Proofs.Ytanknjpcgceccaa

/- What the coder writes it reads again, and the other way round: each kind of step. Plain, no program. -/
namespace Go.Proofs.Ytanknjpcgceccaa

theorem not_one {j o : Nat} (h : j ∉ [o]) : j ≠ o := fun e => h (by simp [e])
section
variable {lay : List Ty}
theorem two_num {n : Nat} {k : IntKind} {o : Nat} (h4 : n % 4 = 0) (hT : ∀ A, Typed lay A → IntAt k n A o) (hU : ∀ A v, Typed lay A → (0 ≤ v ∧ v < ((256 ^ n : Nat) : Int)) → Typed lay (upd A o (.int k v))) : Two lay [o] [o] (num1 n k o) where
  sub := fun _ h => h
  like := fun x => like_num1 _ _ _ x
  clean := fun x h => clean_num h
  fr := fun x j hj => upd_ne _ _ (not_one hj)
  ty := fun x hx => hU _ _ hx (num_range _ _ _ (hT _ hx).iv.2)
  wr := fun A out out2 hA h => by
    have hi := (hT A hA).iv
    have h' : out ++ be n (iv (A o)) = out2 := by simpa [num1, St.num] using h
    refine ⟨be n (iv (A o)), h'.symm, by rw [be_length]; exact h4, fun inp Z hZ hp => ?_⟩
    obtain ⟨suf, h1, h2⟩ := drop_pre hp
    have hr := rnum_full h1 h2 hi.2.1 (by simpa using hi.2.2)
    have e : num1 n k o (.rd inp out.length 0 false, Z) = (.rd inp (out.length + n) 0 false, upd Z o (.int k (iv (A o)))) := by
      simp only [num1, St.num, hr]
      rw [Int.toNat_of_nonneg hi.2.1]
    rw [e]
    refine ⟨by simp [be_length], fun j hj => ?_⟩
    simp only [List.mem_singleton] at hj
    subst hj
    show upd Z j _ j = upd A j _ j
    rw [upd_at, upd_at]; rfl
  back := fun inp pos A p2 hA hle h => by
    obtain ⟨⟨v, p, e⟩, hr⟩ : ∃ r : Nat × Nat × Int, rnum n inp pos 0 = r := ⟨_, rfl⟩
    have e1 : num1 n k o (.rd inp pos 0 false, A) = (.rd inp p e false, upd A o (.int k (v : Int))) := by simp only [num1, St.num, hr]
    rw [e1] at h ⊢
    simp only [St.rd.injEq, true_and, and_true] at h
    obtain ⟨rfl, rfl⟩ := h
    obtain ⟨q1, q2, q3, _⟩ := rnum_back hr
    refine ⟨by omega, q2, fun B out hB hT' => ?_⟩
    have hb : B o = some (.int k (v : Int)) := by rw [hT' o (by simp)]; exact upd_at _ _ _
    show ((St.wr false (out ++ be n (iv (B o)))), upd B o (.int k (iv (B o)))) = _
    rw [hb]
    show ((St.wr false (out ++ be n (v : Int))), upd B o (.int k (v : Int))) = _
    rw [upd_self hb, q3]
theorem two_u32 {o : Nat} (ho : lay[o]? = some .u32) : Two lay [o] [o] (num1 4 .u32 o) := two_num rfl (fun A h => h o _ ho) fun A v h hv => h.upd' ho ⟨v, rfl, hv⟩
theorem two_u64 {o : Nat} (ho : lay[o]? = some .u64) : Two lay [o] [o] (num1 8 .u64 o) := two_num rfl (fun A h => h o _ ho) fun A v h hv => h.upd' ho ⟨v, rfl, hv⟩
theorem two_truth {o : Nat} (ho : lay[o]? = some .bool) : Two lay [o] [o] (pTruth o) where
  sub := fun _ h => h
  like := fun x => like_pTruth _ x
  clean := fun x h => clean_truth h
  fr := fun x j hj => upd_ne _ _ (not_one hj)
  ty := fun x hx => hx.upd' ho ⟨_, rfl⟩
  wr := fun A out out2 hA h => by
    have hi := (hA o _ ho).bv
    have h' : out ++ be 4 (boolNum (bv (A o))) = out2 := by simpa [pTruth, St.truth] using h
    refine ⟨be 4 (boolNum (bv (A o))), h'.symm, by rw [be_length], fun inp Z hZ hp => ?_⟩
    obtain ⟨suf, h1, h2⟩ := drop_pre hp
    have hr := rnum_full h1 h2 (by cases bv (A o) <;> simp [boolNum]) (by cases bv (A o) <;> simp [boolNum])
    have hb : rbool inp out.length 0 = (bv (A o), out.length + 4, 0) := by
      simp only [rbool, hr]
      cases bv (A o) <;> simp [boolNum]
    have e : pTruth o (.rd inp out.length 0 false, Z) = (.rd inp (out.length + 4) 0 false, upd Z o (.bool (bv (A o)))) := by
      simp only [pTruth, St.truth, hb]
    rw [e]
    refine ⟨by simp [be_length], fun j hj => ?_⟩
    simp only [List.mem_singleton] at hj
    subst hj
    show upd Z j _ j = upd A j _ j
    rw [upd_at, upd_at]; rfl
  back := fun inp pos A p2 hA hle h => by
    obtain ⟨⟨v, p, e⟩, hr⟩ : ∃ r : Bool × Nat × Int, rbool inp pos 0 = r := ⟨_, rfl⟩
    have e1 : pTruth o (.rd inp pos 0 false, A) = (.rd inp p e false, upd A o (.bool v)) := by simp only [pTruth, St.truth, hr]
    rw [e1] at h ⊢
    simp only [St.rd.injEq, true_and, and_true] at h
    obtain ⟨rfl, rfl⟩ := h
    obtain ⟨⟨m, p', e'⟩, hr'⟩ : ∃ r : Nat × Nat × Int, rnum 4 inp pos 0 = r := ⟨_, rfl⟩
    unfold rbool at hr
    rw [hr'] at hr
    simp only at hr
    split at hr
    · simp at hr
    · rename_i hm
      simp only [Prod.mk.injEq] at hr
      obtain ⟨rfl, rfl, rfl⟩ := hr
      obtain ⟨q1, q2, q3, _⟩ := rnum_back hr'
      refine ⟨by omega, q2, fun B out hB hT' => ?_⟩
      have hb : B o = some (.bool (m == 1)) := by rw [hT' o (by simp)]; exact upd_at _ _ _
      have hbn : boolNum (m == 1) = (m : Int) := by
        have : m = 0 ∨ m = 1 := by omega
        rcases this with rfl | rfl <;> rfl
      show ((St.wr false (out ++ be 4 (boolNum (bv (B o))))), upd B o (.bool (bv (B o)))) = _
      rw [hb]
      show ((St.wr false (out ++ be 4 (boolNum (m == 1)))), upd B o (.bool (m == 1))) = _
      rw [upd_self hb, hbn, q3]
theorem two_number {o : Nat} {lo hi : Int} (h0 : 0 ≤ lo) (h1 : hi < 4294967296) (ho : lay[o]? = some .int) : Two lay [o] [o] (pNumber lo hi o) where
  sub := fun _ h => h
  like := fun x => like_pNumber _ _ _ x
  clean := fun x h => clean_number h
  fr := fun x j hj => upd_ne _ _ (not_one hj)
  ty := fun x hx => hx.upd' ho ⟨_, rfl⟩
  wr := fun A out out2 hA h => by
    have hi' := (hA o _ ho).iv
    have h' : (!decide (lo ≤ iv (A o) ∧ iv (A o) ≤ hi)) = false ∧ out ++ be 4 (IntKind.u32.wrap (iv (A o))) = out2 := by
      have h2 : St.wr (false || !decide (lo ≤ iv (A o) ∧ iv (A o) ≤ hi)) (out ++ be 4 (IntKind.u32.wrap (iv (A o)))) = .wr false out2 := h
      simpa using h2
    obtain ⟨hb, h'⟩ := h'
    simp only [Bool.not_eq_false', decide_eq_true_eq] at hb
    obtain ⟨hl, hh⟩ := hb
    have hw : IntKind.u32.wrap (iv (A o)) = iv (A o) := by rw [IntKind.wrap_u32]; omega
    rw [hw] at h'
    refine ⟨be 4 (iv (A o)), h'.symm, by rw [be_length], fun inp Z hZ hp => ?_⟩
    obtain ⟨suf, p1, p2⟩ := drop_pre hp
    have hr := rnum_full p1 p2 (by omega) (by omega)
    have e : pNumber lo hi o (.rd inp out.length 0 false, Z) = (.rd inp (out.length + 4) 0 false, upd Z o (.int .i64 (iv (A o)))) := by
      simp only [pNumber, St.number, St.num, hr, St.must]
      rw [Int.toNat_of_nonneg (by omega)]
      simp [hl, hh]
    rw [e]
    refine ⟨by simp [be_length], fun j hj => ?_⟩
    simp only [List.mem_singleton] at hj
    subst hj
    show upd Z j _ j = upd A j _ j
    rw [upd_at, upd_at]; rfl
  back := fun inp pos A p2 hA hle h => by
    obtain ⟨⟨v, p, e⟩, hr⟩ : ∃ r : Nat × Nat × Int, rnum 4 inp pos 0 = r := ⟨_, rfl⟩
    have e1 : pNumber lo hi o (.rd inp pos 0 false, A) = (.rd inp p e (!decide (lo ≤ (v : Int) ∧ (v : Int) ≤ hi)), upd A o (.int .i64 (v : Int))) := by simp [pNumber, St.number, St.num, St.must, hr]
    rw [e1] at h ⊢
    simp only [St.rd.injEq, true_and] at h
    obtain ⟨rfl, rfl, hb⟩ := h
    simp only [Bool.not_eq_false', decide_eq_true_eq] at hb
    obtain ⟨q1, q2, q3, q4⟩ := rnum_back hr
    refine ⟨by omega, q2, fun B out hB hT' => ?_⟩
    have hbo : B o = some (.int .i64 (v : Int)) := by rw [hT' o (by simp)]; exact upd_at _ _ _
    show (St.wr (false || !decide (lo ≤ iv (B o) ∧ iv (B o) ≤ hi)) (out ++ be 4 (IntKind.u32.wrap (iv (B o)))), upd B o (.int .i64 (iv (B o)))) = _
    rw [hbo]
    show (St.wr (false || !decide (lo ≤ (v : Int) ∧ (v : Int) ≤ hi)) (out ++ be 4 (IntKind.u32.wrap (v : Int))), upd B o (.int .i64 (v : Int))) = _
    have hw : IntKind.u32.wrap (v : Int) = (v : Int) := by rw [IntKind.wrap_u32]; omega
    rw [upd_self hbo, hw, q3, decide_eq_true hb]; rfl
theorem two_text {o : Nat} {most : Int} (h0 : 0 ≤ most) (hm : most ≤ 2000000) (ho : lay[o]? = some .str) : Two lay [o] [o] (pText most o) where
  sub := fun _ h => h
  like := fun x => like_pText _ _ x
  clean := fun x h => clean_row h
  fr := fun x j hj => upd_ne _ _ (not_one hj)
  ty := fun x hx => hx.upd' ho ⟨_, rfl, row_le _ _ ⟨h0, hm⟩ _ (hx o _ ho).sv.2⟩
  wr := fun A out out2 hA h => by
    have hi' := (hA o _ ho).sv
    have h' : (!decide (((sv (A o)).length : Int) ≤ most)) = false ∧ out ++ row (sv (A o)) = out2 := by
      have h2 : St.wr (false || !decide (((sv (A o)).length : Int) ≤ most)) (out ++ row (sv (A o))) = .wr false out2 := h
      simpa using h2
    obtain ⟨hb, h'⟩ := h'
    simp only [Bool.not_eq_false', decide_eq_true_eq] at hb
    refine ⟨row (sv (A o)), h'.symm, row_four _, fun inp Z hZ hp => ?_⟩
    obtain ⟨suf, p1, p2⟩ := drop_pre hp
    have hr := rbytes_full p1 p2 (by omega) hb
    have e : pText most o (.rd inp out.length 0 false, Z) = (.rd inp (out.length + (row (sv (A o))).length) 0 false, upd Z o (.string (str (sv (A o))))) := by
      simp only [pText, St.row, hr]
    rw [e]
    refine ⟨by simp, fun j hj => ?_⟩
    simp only [List.mem_singleton] at hj
    subst hj
    show upd Z j _ j = upd A j _ j
    rw [upd_at, upd_at]; rfl
  back := fun inp pos A p2 hA hle h => by
    obtain ⟨⟨v, p, e⟩, hr⟩ : ∃ r : List UInt8 × Nat × Int, rbytes most inp pos 0 = r := ⟨_, rfl⟩
    have e1 : pText most o (.rd inp pos 0 false, A) = (.rd inp p e false, upd A o (.string (str v))) := by simp only [pText, St.row, hr]
    rw [e1] at h ⊢
    simp only [St.rd.injEq, true_and, and_true] at h
    obtain ⟨rfl, rfl⟩ := h
    obtain ⟨q1, q2, q3, q4⟩ := rbytes_back hr
    refine ⟨q1, q2, fun B out hB hT' => ?_⟩
    have hbo : B o = some (.string (str v)) := by rw [hT' o (by simp)]; exact upd_at _ _ _
    show (St.wr (false || !decide (((sv (B o)).length : Int) ≤ most)) (out ++ row (sv (B o))), upd B o (.string (str (sv (B o))))) = _
    rw [hbo, sv_str, upd_self hbo, q3, decide_eq_true q4]; rfl
/-- A cell that is set. -/
theorem two_put {o : Nat} {v : Value} (hv : ∀ A, Typed lay A → Typed lay (upd A o v)) : Two lay [o] [o] (fun x => (x.1, upd x.2 o v)) where
  sub := fun _ h => h
  like := fun x => Like.refl _
  clean := fun x h => h
  fr := fun x j hj => upd_ne _ _ (not_one hj)
  ty := fun x hx => hv _ hx
  wr := fun A out out2 hA h => by
    simp only [St.wr.injEq, true_and] at h
    refine ⟨[], by rw [← h, List.append_nil], rfl, fun inp Z hZ hp => ⟨by simp, fun j hj => ?_⟩⟩
    simp only [List.mem_singleton] at hj
    subst hj
    simp only [upd_at]
  back := fun inp pos A p2 hA hle h => by
    simp only [St.rd.injEq, true_and, and_true] at h
    subst h
    refine ⟨Nat.le_refl _, hle, fun B out hB hT' => ?_⟩
    have hbo : B o = some v := by rw [hT' o (by simp)]; exact upd_at _ _ _
    simp only [upd_self hbo, Nat.sub_self, List.take_zero, List.append_nil]
/-- A number that is always the same. -/
theorem two_fix {n : Nat} {v : Int} (h4 : n % 4 = 0) (hv : 0 ≤ v ∧ v < ((256 ^ n : Nat) : Int)) : Two lay [] [] (fun x => (sFix n v x.1, x.2)) where
  sub := fun _ h => h
  like := fun x => like_sFix _ _ _
  clean := fun x h => clean_num (clean_must h).1
  fr := fun x j hj => rfl
  ty := fun x hx => hx
  wr := fun A out out2 hA h => by
    have h' : out ++ be n v = out2 := by
      have h2 : St.wr (false || !(v == v)) (out ++ be n v) = .wr false out2 := h
      simpa using h2
    refine ⟨be n v, h'.symm, by rw [be_length]; exact h4, fun inp Z hZ hp => ?_⟩
    obtain ⟨suf, p1, p2⟩ := drop_pre hp
    have hr := rnum_full p1 p2 hv.1 (by simpa using hv.2)
    refine ⟨?_, fun j hj => by simp at hj⟩
    simp only [sFix, St.num, hr, St.must]
    rw [Int.toNat_of_nonneg hv.1]
    simp [be_length]
  back := fun inp pos A p2 hA hle h => by
    obtain ⟨⟨m, p, e⟩, hr⟩ : ∃ r : Nat × Nat × Int, rnum n inp pos 0 = r := ⟨_, rfl⟩
    have e1 : sFix n v (.rd inp pos 0 false) = .rd inp p e (!((m : Int) == v)) := by simp [sFix, St.num, St.must, hr]
    simp only [e1, St.rd.injEq, true_and] at h
    obtain ⟨rfl, rfl, hb⟩ := h
    simp only [Bool.not_eq_false', beq_iff_eq] at hb
    obtain ⟨q1, q2, q3, q4⟩ := rnum_back hr
    refine ⟨by omega, q2, fun B out hB hT' => ?_⟩
    show (St.wr (false || !(v == v)) (out ++ be n v), B) = _
    rw [← hb, q3]; simp
theorem two_fixed64 {v : Int} (hv : 0 ≤ v ∧ v < 18446744073709551616) : Two lay [] [] (pFixed64 v) := two_fix rfl ⟨hv.1, by have := hv.2; simpa using this⟩
theorem two_fixed : ∀ (l : List Int), (∀ v ∈ l, 0 ≤ v ∧ v < 4294967296) → Two lay [] [] (pFixed l) := by
  intro l
  induction l with
  | nil => intro _; exact two_id
  | cons v l ih =>
    intro h
    have h1 : Two lay [] [] (fun x => (sFix 4 v x.1, x.2)) := two_fix rfl ⟨(h v (by simp)).1, by have := (h v (by simp)).2; simpa using this⟩
    exact two_comp h1 (ih fun u hu => h u (List.mem_cons_of_mem _ hu)) (by simp)
/-- Bytes that are always the same. -/
theorem two_row {most : Int} {c : List UInt8} (hc : c.length < 4294967296) : Two lay [] [] (fun x => (((x.1.row most c).2.must ((x.1.row most c).1 == c)), x.2)) where
  sub := fun _ h => h
  like := fun x => (like_must _ _).trans (like_row _ _ _)
  clean := fun x h => clean_row (clean_must h).1
  fr := fun x j hj => rfl
  ty := fun x hx => hx
  wr := fun A out out2 hA h => by
    have h' : (!decide ((c.length : Int) ≤ most)) = false ∧ out ++ row c = out2 := by
      have h2 : St.wr ((false || !decide ((c.length : Int) ≤ most)) || !(c == c)) (out ++ row c) = .wr false out2 := h
      simpa using h2
    obtain ⟨hb, h'⟩ := h'
    simp only [Bool.not_eq_false', decide_eq_true_eq] at hb
    refine ⟨row c, h'.symm, row_four _, fun inp Z hZ hp => ?_⟩
    obtain ⟨suf, p1, p2⟩ := drop_pre hp
    have hr := rbytes_full p1 p2 hc hb
    refine ⟨?_, fun j hj => by simp at hj⟩
    simp only [St.row, hr, St.must]
    simp
  back := fun inp pos A p2 hA hle h => by
    obtain ⟨⟨v, p, e⟩, hr⟩ : ∃ r : List UInt8 × Nat × Int, rbytes most inp pos 0 = r := ⟨_, rfl⟩
    simp only [St.row, hr, St.must, St.rd.injEq, true_and, Bool.false_or, Bool.not_eq_false', beq_iff_eq] at h
    obtain ⟨rfl, rfl, rfl⟩ := h
    obtain ⟨q1, q2, q3, q4⟩ := rbytes_back hr
    refine ⟨q1, q2, fun B out hB hT' => ?_⟩
    show (St.wr ((false || !decide ((v.length : Int) ≤ most)) || !(v == v)) (out ++ row v), B) = _
    rw [q3, decide_eq_true q4]; simp

/-- What was read must be so. -/
theorem two_must {S T : List Nat} {h : X → X} {o : Nat} (c : Option Value → Bool) (hh : Two lay S T h) (ho : o ∈ S) : Two lay S T (fun x => pMust (c ((h x).2 o)) (h x)) where
  sub := hh.sub
  like := fun x => (like_must _ _).trans (hh.like x)
  clean := fun x hx => hh.clean x (clean_must hx).1
  fr := fun x j hj => hh.fr x j hj
  ty := fun x hx => hh.ty x hx
  wr := fun A out out2 hA hw => by
    have hcl := clean_must (s := (h (.wr false out, A)).1) (b := c ((h (.wr false out, A)).2 o)) (by
      show Clean (pMust (c ((h (.wr false out, A)).2 o)) (h (.wr false out, A))).1
      rw [hw]; rfl)
    obtain ⟨o1, h1⟩ := clean_wr (out := []) hcl.1 (hh.like _) rfl
    have hw2 : ((h (.wr false out, A)).1.must (c ((h (.wr false out, A)).2 o))) = .wr false out2 := hw
    rw [h1, hcl.2] at hw2
    obtain rfl : o1 = out2 := by simpa [St.must] using hw2
    obtain ⟨d, q1, q2, q3⟩ := hh.wr A out o1 hA h1
    refine ⟨d, q1, q2, fun inp Z hZ hp => ?_⟩
    obtain ⟨z1, z2⟩ := q3 inp Z hZ hp
    refine ⟨?_, z2⟩
    show ((h (.rd inp out.length 0 false, Z)).1.must (c ((h (.rd inp out.length 0 false, Z)).2 o))) = _
    rw [z1, z2 o ho, hcl.2]; rfl
  back := fun inp pos A p2 hA hle hr => by
    have hcl := clean_must (s := (h (.rd inp pos 0 false, A)).1) (b := c ((h (.rd inp pos 0 false, A)).2 o)) (by
      show Clean (pMust (c ((h (.rd inp pos 0 false, A)).2 o)) (h (.rd inp pos 0 false, A))).1
      rw [hr]; exact ⟨rfl, rfl⟩)
    obtain ⟨p1, h1⟩ := clean_rd hcl.1 (hh.like _)
    have hr2 : ((h (.rd inp pos 0 false, A)).1.must (c ((h (.rd inp pos 0 false, A)).2 o))) = .rd inp p2 0 false := hr
    rw [h1, hcl.2] at hr2
    obtain rfl : p1 = p2 := by simpa [St.must] using hr2
    obtain ⟨a1, a2, a3⟩ := hh.back inp pos A p1 hA hle h1
    refine ⟨a1, a2, fun B out hB hT => ?_⟩
    have hT' : ∀ j ∈ T, B j = (h (.rd inp pos 0 false, A)).2 j := hT
    show pMust (c ((h (.wr false out, B)).2 o)) (h (.wr false out, B)) = _
    rw [a3 B out hB hT']
    show (St.must (c (B o)) (.wr false _), B) = _
    rw [hT' o (hh.sub o ho), hcl.2]; rfl
end

end Go.Proofs.Ytanknjpcgceccaa

/- What the coder writes it reads again, and the other way round: parts of results. Plain, no program. -/
namespace Go.Proofs.Ytanknjpcgceccaa

section
variable {lay : List Ty}
theorem Two.weak {S T S' T' : List Nat} {f : X → X} (h : Two lay S T f) (hs : ∀ j ∈ S', j ∈ S) (ht : ∀ j ∈ T, j ∈ T') : Two lay S' T' f where
  sub := fun j hj => ht j (h.sub j (hs j hj))
  like := h.like
  clean := h.clean
  fr := fun x j hj => h.fr x j fun hm => hj (ht j hm)
  ty := h.ty
  wr := fun A out out2 hA hw => by
    obtain ⟨d, q1, q2, q3⟩ := h.wr A out out2 hA hw
    exact ⟨d, q1, q2, fun inp Z hZ hp => ⟨(q3 inp Z hZ hp).1, fun j hj => (q3 inp Z hZ hp).2 j (hs j hj)⟩⟩
  back := fun inp pos A p2 hA hle hr => by
    obtain ⟨a1, a2, a3⟩ := h.back inp pos A p2 hA hle hr
    exact ⟨a1, a2, fun B out hB hT => a3 B out hB fun j hj => hT j (ht j hj)⟩
theorem two_if {S T T1 S1 : List Nat} {h f : X → X} {o : Nat} (hh : Two lay S T h) (ho : o ∈ S) (hf : Two lay S1 T1 f) (d : ∀ j ∈ T, j ∉ T1) : Two lay S (T ++ (T1 ++ [])) (fun x => pIf o f (h x)) :=
  two_choice bv hh ho hf two_id d (by simp)
theorem two_time {o : Nat} (h0 : lay[o]? = some .u32) (h1 : lay[o + 1]? = some .u32) : Two lay [] (List.range' o 2) (pTime o) :=
  (two_comp (two_u32 h0) (two_u32 h1) (by simp)).weak (by simp) (by intro j hj; simp at hj; rw [List.mem_range'_1]; omega)
theorem two_u64s {o p : Nat} (hop : o ≠ p) (h0 : lay[o]? = some .u64) (h1 : lay[p]? = some .u64) : Two lay [o, p] [o, p] (nums 8 .u64 [o, p]) :=
  two_comp (two_u64 h0) (two_u64 h1) (by simp; exact hop)
theorem two_u32s {o p : Nat} (hop : o ≠ p) (h0 : lay[o]? = some .u32) (h1 : lay[p]? = some .u32) : Two lay [o, p] [o, p] (nums 4 .u32 [o, p]) :=
  two_comp (two_u32 h0) (two_u32 h1) (by simp; exact hop)
theorem two_zero {t : Nat} (h0 : lay[t]? = some .u32) (h1 : lay[t + 1]? = some .u32) : Two lay [] (List.range' t 2) (fun y => (y.1, upd (upd y.2 t (.int .u32 0)) (t + 1) (.int .u32 0))) :=
  (two_comp (two_put (v := .int .u32 0) fun A hA => hA.upd' h0 ⟨0, rfl, by decide, by decide⟩) (two_put (v := .int .u32 0) fun A hA => hA.upd' h1 ⟨0, rfl, by decide, by decide⟩) (by simp)).weak (by simp) (by intro j hj; simp at hj; rw [List.mem_range'_1]; omega)
theorem two_how {v t : Nat} (hv : lay[v]? = some .int) (h0 : lay[t]? = some .u32) (h1 : lay[t + 1]? = some .u32) (hd : v < t ∨ t + 1 < v) : Two lay [v] (v :: List.range' t 2) (pHow v t) := by
  have h := two_choice (fun x => decide (iv x = 2)) (two_number (lo := 0) (hi := 2) (by decide) (by decide) hv) (o := v) (by simp) (two_time h0 h1) (two_zero h0 h1) (by simp; omega) (by simp; omega)
  have e : (fun x => if decide (iv ((pNumber 0 2 v x).2 v) = 2) = true then pTime t (pNumber 0 2 v x) else ((pNumber 0 2 v x).1, upd (upd (pNumber 0 2 v x).2 t (.int .u32 0)) (t + 1) (.int .u32 0))) = pHow v t := by
    funext x
    unfold pHow
    simp only [decide_eq_true_eq]
  rw [e] at h
  exact h.weak (by simp) (by intro j hj; simp at hj ⊢; omega)

theorem two_attr {o : Nat} (hl : ∀ j t, attrLay[j]? = some t → lay[o + j]? = some t) : Two lay [] (List.range' o 14) (pAttr o) := by
  have a0 := two_must (fun v => isFile (iv v)) (two_number (lo := 0) (hi := 4294967295) (by decide) (by decide) (hl 0 _ rfl)) (o := o + 0) (by simp)
  have a1 := two_comp a0 (two_number (lo := 0) (hi := 4294967295) (by decide) (by decide) (hl 1 _ rfl)) (by simp)
  have a2 := two_comp a1 (two_number (lo := 0) (hi := 4294967295) (by decide) (by decide) (hl 2 _ rfl)) (by simp)
  have a3 := two_comp a2 (two_u32s (o := o + 3) (p := o + 4) (by omega) (hl 3 _ rfl) (hl 4 _ rfl)) (by simp)
  have a4 := two_comp a3 (two_u64s (o := o + 5) (p := o + 6) (by omega) (hl 5 _ rfl) (hl 6 _ rfl)) (by simp)
  have a5 := two_comp a4 (two_fixed [0, 0] (by simp)) (by simp)
  have a6 := two_comp a5 (two_fixed64 (v := 1) (by decide)) (by simp)
  have a7 := two_comp a6 (two_u64 (hl 7 _ rfl)) (by simp)
  have a8 := two_comp a7 (two_time (o := o + 8) (hl 8 _ rfl) (hl 9 _ rfl)) (by intro j hj; simp at hj ⊢; omega)
  have a9 := two_comp a8 (two_time (o := o + 10) (hl 10 _ rfl) (hl 11 _ rfl)) (by intro j hj; simp at hj ⊢; omega)
  have a10 := two_comp a9 (two_time (o := o + 12) (hl 12 _ rfl) (hl 13 _ rfl)) (by intro j hj; simp at hj ⊢; omega)
  exact a10.weak (by simp) (by intro j hj; simp at hj ⊢; omega)
theorem two_post {o : Nat} (hl : ∀ j t, postLay[j]? = some t → lay[o + j]? = some t) : Two lay [] (List.range' o 15) (pPost o) :=
  (two_if (two_truth (hl 0 _ rfl)) (o := o + 0) (by simp) (two_attr (o := o + 1) (post_attr hl)) (by intro j hj; simp at hj ⊢; omega)).weak (by simp) (by intro j hj; simp at hj ⊢; omega)
theorem two_before {o : Nat} (hl : ∀ j t, wccLay[j]? = some t → lay[o + j]? = some t) : Two lay [] (List.range' o 6) (pBefore o) := by
  have h := two_comp (two_comp (two_u64 (hl 1 _ rfl)) (two_time (o := o + 2) (hl 2 _ rfl) (hl 3 _ rfl)) (by intro j hj; simp at hj ⊢; omega)) (two_time (o := o + 4) (hl 4 _ rfl) (hl 5 _ rfl)) (by intro j hj; simp at hj ⊢; omega)
  exact (two_if (two_truth (hl 0 _ rfl)) (o := o + 0) (by simp) h (by intro j hj; simp at hj ⊢; omega)).weak (by simp) (by intro j hj; simp at hj ⊢; omega)
theorem two_wcc {o p : Nat} (hl : ∀ j t, wccLay[j]? = some t → lay[o + j]? = some t) (hp : ∀ j t, postLay[j]? = some t → lay[p + j]? = some t) (hd : o + 6 ≤ p) : Two lay [] (List.range' o 6 ++ List.range' p 15) (pWcc o p) :=
  (two_comp (two_before hl) (two_post hp) (by intro j hj; rw [List.mem_range'_1] at hj ⊢; omega)).weak (by simp) (fun _ h => h)
theorem two_handle {a b : Nat} (hab : a ≠ b) (ha : lay[a]? = some .bool) (hb : lay[b]? = some .str) : Two lay [] [a, b] (pHandle a b) :=
  (two_if (two_truth ha) (o := a) (by simp) (two_text (most := 64) (by decide) (by decide) hb) (by simp; exact hab)).weak (by simp) (by intro j hj; simp at hj ⊢; exact hj)
theorem two_entry (plus : Bool) : Two eLay [] (List.range' 0 20) (pEntry plus 0) := by
  have h3 := two_comp (two_comp (two_u64 (lay := eLay) (o := 0) rfl) (two_text (o := 1) (most := 255) (by decide) (by decide) rfl) (by decide)) (two_u64 (o := 2) rfl) (by decide)
  cases plus
  · exact h3.weak (by simp) (by decide)
  · exact (two_comp (two_comp h3 (two_post (o := 3) sub_ePost) (by decide)) (two_handle (a := 18) (b := 19) (by decide) rfl rfl) (by decide)).weak (by simp) (by decide)

/-- A number that was read stands there once more. -/
def dup (o : Nat) (y : X) : X := if y.1.isWr then num1 8 .u64 o y else ((y.1.num 8 0).2.must ((y.1.num 8 0).1 == iv (y.2 o)), y.2)
theorem two_dup {S T : List Nat} {h : X → X} {o : Nat} (hh : Two lay S T h) (ho : o ∈ S) (hl : lay[o]? = some .u64) : Two lay S T (fun x => dup o (h x)) where
  sub := hh.sub
  like := fun x => by
    unfold dup; split
    · exact (like_num1 _ _ _ _).trans (hh.like x)
    · exact ((like_must _ _).trans (like_num _ _ _)).trans (hh.like x)
  clean := fun x hx => by
    unfold dup at hx; split at hx
    · exact hh.clean x (clean_num hx)
    · exact hh.clean x (clean_num (clean_must hx).1)
  fr := fun x j hj => by
    unfold dup; split
    · show upd (h x).2 o _ j = _
      rw [upd_ne _ _ (fun e => hj (by rw [e]; exact hh.sub o ho))]; exact hh.fr x j hj
    · exact hh.fr x j hj
  ty := fun x hx => by
    unfold dup; split
    · exact (two_u64 hl).ty _ (hh.ty x hx)
    · exact hh.ty x hx
  wr := fun A out out2 hA hw => by
    have hiw : (h (.wr false out, A)).1.isWr = true := (hh.like _).1
    have ed : dup o (h (.wr false out, A)) = num1 8 .u64 o (h (.wr false out, A)) := by unfold dup; rw [if_pos hiw]
    simp only [ed] at hw ⊢
    have hc : Clean (h (.wr false out, A)).1 := clean_num (n := 8) (v := iv ((h (.wr false out, A)).2 o)) (by
      show Clean (num1 8 .u64 o (h (.wr false out, A))).1
      rw [hw]; rfl)
    obtain ⟨o1, h1⟩ := clean_wr (out := []) hc (hh.like _) rfl
    obtain ⟨d, rfl, q2, q3⟩ := hh.wr A out o1 hA h1
    have hi := (show IntAt .u64 8 (h (.wr false out, A)).2 o from hh.ty (.wr false out, A) hA o _ hl).iv
    have hw2 : ((h (.wr false out, A)).1.num 8 (iv ((h (.wr false out, A)).2 o))).2 = .wr false out2 := hw
    rw [h1] at hw2
    have ho2 : out ++ d ++ be 8 (iv ((h (.wr false out, A)).2 o)) = out2 := by simpa [St.num] using hw2
    refine ⟨d ++ be 8 (iv ((h (.wr false out, A)).2 o)), by rw [← ho2, List.append_assoc], by rw [List.length_append, be_length]; omega, fun inp Z hZ hp => ?_⟩
    rw [← List.append_assoc] at hp
    obtain ⟨z1, z2⟩ := q3 inp Z hZ ((List.prefix_append _ _).trans hp)
    have hrw : (h (.rd inp out.length 0 false, Z)).1.isWr = false := (hh.like _).1
    have er : dup o (h (.rd inp out.length 0 false, Z)) = (((h (.rd inp out.length 0 false, Z)).1.num 8 0).2.must (((h (.rd inp out.length 0 false, Z)).1.num 8 0).1 == iv ((h (.rd inp out.length 0 false, Z)).2 o)), (h (.rd inp out.length 0 false, Z)).2) := by
      unfold dup; rw [if_neg (by rw [hrw]; decide)]
    obtain ⟨suf, p1, p2⟩ := drop_pre hp
    have hr := rnum_full p1 p2 hi.2.1 (by simpa using hi.2.2)
    simp only [er]
    rw [z1, z2 o ho]
    refine ⟨?_, fun j hj => ?_⟩
    · simp only [St.num, hr, St.must]
      rw [Int.toNat_of_nonneg hi.2.1]
      simp [be_length, Nat.add_assoc]
    · show (h (.rd inp out.length 0 false, Z)).2 j = upd (h (.wr false out, A)).2 o _ j
      rw [z2 j hj]
      have : upd (h (.wr false out, A)).2 o (.int .u64 ((h (.wr false out, A)).1.num 8 (iv ((h (.wr false out, A)).2 o))).1) = (h (.wr false out, A)).2 := by
        rw [h1]; exact upd_self hi.1
      exact (congrFun this j).symm
  back := fun inp pos A p2 hA hle hr => by
    have hrw : (h (.rd inp pos 0 false, A)).1.isWr = false := (hh.like _).1
    have er : dup o (h (.rd inp pos 0 false, A)) = (((h (.rd inp pos 0 false, A)).1.num 8 0).2.must (((h (.rd inp pos 0 false, A)).1.num 8 0).1 == iv ((h (.rd inp pos 0 false, A)).2 o)), (h (.rd inp pos 0 false, A)).2) := by
      unfold dup; rw [if_neg (by rw [hrw]; decide)]
    simp only [er] at hr ⊢
    have hc := clean_must (by rw [hr]; exact ⟨rfl, rfl⟩ : Clean (((h (.rd inp pos 0 false, A)).1.num 8 0).2.must (((h (.rd inp pos 0 false, A)).1.num 8 0).1 == iv ((h (.rd inp pos 0 false, A)).2 o))))
    obtain ⟨p1, h1⟩ := clean_rd (clean_num hc.1) (hh.like _)
    obtain ⟨a1, a2, a3⟩ := hh.back inp pos A p1 hA hle h1
    have hb := hc.2
    rw [hb] at hr
    rw [h1] at hr hb
    obtain ⟨⟨v, p, e⟩, hrn⟩ : ∃ r : Nat × Nat × Int, rnum 8 inp p1 0 = r := ⟨_, rfl⟩
    simp only [St.num, hrn, St.must, St.rd.injEq, true_and, Bool.not_true, Bool.or_false, and_true] at hr
    obtain ⟨rfl, rfl⟩ := hr
    obtain ⟨q1, q2, q3, _⟩ := rnum_back hrn
    have hv : (v : Int) = iv ((h (.rd inp pos 0 false, A)).2 o) := by simpa [St.num, hrn] using hb
    refine ⟨by omega, q2, fun B out hB hT => ?_⟩
    have hwb := a3 B out hB hT
    have hiw : (h (.wr false out, B)).1.isWr = true := (hh.like _).1
    have ed : dup o (h (.wr false out, B)) = num1 8 .u64 o (h (.wr false out, B)) := by unfold dup; rw [if_pos hiw]
    rw [ed, hwb]
    have hi := (show IntAt .u64 8 B o from hB o _ hl).iv
    show (St.wr false (out ++ (inp.drop pos).take (p1 - pos) ++ be 8 (iv (B o))), upd B o (.int .u64 (iv (B o)))) = _
    rw [upd_self hi.1, hT o (hh.sub o ho), ← hv, q3, List.append_assoc, take_two _ a1 (by omega)]

theorem num_must (s : St) (b : Bool) (n : Nat) (v : Int) : (s.must b).num n v = ((s.num n v).1, (s.num n v).2.must b) := by cases s <;> rfl
theorem num1_must (s : St) (A : Cells) (b : Bool) (n : Nat) (k : IntKind) (o : Nat) : num1 n k o (s.must b, A) = ((num1 n k o (s, A)).1.must b, (num1 n k o (s, A)).2) := by
  unfold num1
  simp only [num_must]
theorem must_must (s : St) (a b : Bool) : (s.must a).must b = s.must (a && b) := by cases s <;> cases a <;> cases b <;> simp [St.must]
theorem nums2_other {n : Nat} {k : IntKind} {a b j : Nat} {x : X} (ha : j ≠ a) (hb : j ≠ b) : (nums n k [a, b] x).2 j = x.2 j := by
  show (num1 n k b (num1 n k a x)).2 j = x.2 j
  unfold num1
  simp only
  rw [upd_ne _ _ hb, upd_ne _ _ ha]
theorem pSpace_eq (x : X) : pSpace x = pFixed [0] (dup 87 (nums 8 .u64 [86, 87] (dup 85 (nums 8 .u64 [84, 85] x)))) := by
  have h1 := (like_nums2 8 .u64 84 85 x).1
  unfold pSpace
  cases hw : x.1.isWr
  · rw [hw] at h1
    rw [if_neg (by decide)]
    dsimp only
    have e1 : dup 85 (nums 8 .u64 [84, 85] x) = (((nums 8 .u64 [84, 85] x).1.num 8 0).2.must (((nums 8 .u64 [84, 85] x).1.num 8 0).1 == iv ((nums 8 .u64 [84, 85] x).2 85)), (nums 8 .u64 [84, 85] x).2) := by
      unfold dup; rw [if_neg (by rw [h1]; decide)]
    obtain ⟨y1, hy1⟩ : ∃ z, z = nums 8 .u64 [84, 85] x := ⟨_, rfl⟩
    rw [← hy1] at e1 h1 ⊢
    rw [e1]
    obtain ⟨b, hb⟩ : ∃ z, z = y1.1.num 8 0 := ⟨_, rfl⟩
    rw [← hb]
    have hbl : b.2.isWr = false := by rw [hb, (like_num _ _ _).1]; exact h1
    have e2 : ∀ m, nums 8 .u64 [86, 87] (b.2.must m, y1.2) = ((nums 8 .u64 [86, 87] (b.2, y1.2)).1.must m, (nums 8 .u64 [86, 87] (b.2, y1.2)).2) := fun m => by
      show num1 8 .u64 87 (num1 8 .u64 86 (b.2.must m, y1.2)) = _
      rw [num1_must]
      exact num1_must _ _ _ _ _ _
    rw [e2]
    obtain ⟨y2, hy2⟩ : ∃ z, z = nums 8 .u64 [86, 87] (b.2, y1.2) := ⟨_, rfl⟩
    have h85 : y2.2 85 = y1.2 85 := by
      rw [hy2]
      exact nums2_other (by decide) (by decide)
    have hy2l : y2.1.isWr = false := by rw [hy2, (like_nums2 _ _ _ _ _).1]; exact hbl
    rw [← hy2]
    have e3 : dup 87 (y2.1.must (b.1 == iv (y1.2 85)), y2.2) = ((((y2.1.must (b.1 == iv (y1.2 85))).num 8 0).2).must (((y2.1.must (b.1 == iv (y1.2 85))).num 8 0).1 == iv (y2.2 87)), y2.2) := by
      unfold dup
      rw [if_neg (by show ¬ (y2.1.must _).isWr = true; rw [(like_must _ _).1, hy2l]; decide)]
    rw [e3, num_must]
    simp only [must_must, h85, pMust]
  · rw [hw] at h1
    rw [if_pos rfl]
    have e1 : ∀ o, dup o (nums 8 .u64 [84, 85] x) = num1 8 .u64 o (nums 8 .u64 [84, 85] x) := fun o => by unfold dup; rw [if_pos h1]
    rw [e1]
    have h2 : (nums 8 .u64 [86, 87] (num1 8 .u64 85 (nums 8 .u64 [84, 85] x))).1.isWr = true := ((like_nums2 _ _ _ _ _).trans (like_num1 _ _ _ _)).1.trans h1
    have e2 : dup 87 (nums 8 .u64 [86, 87] (num1 8 .u64 85 (nums 8 .u64 [84, 85] x))) = num1 8 .u64 87 (nums 8 .u64 [86, 87] (num1 8 .u64 85 (nums 8 .u64 [84, 85] x))) := by unfold dup; rw [if_pos h2]
    rw [e2]
end

end Go.Proofs.Ytanknjpcgceccaa

/- What is written is read again, and the other way round: a procedure's whole way; data behind it. Plain, no program. -/
namespace Go.Proofs.Ytanknjpcgceccaa

/-- What lies beside the cells (data, lines): both ways. d0: what reading begins with. -/
structure Ext {D : Type} (ok : D → Prop) (d0 : D) (M : D → St → D × St) : Prop where
  like : ∀ d s, Like (M d s).2 s
  clean : ∀ d s, Clean (M d s).2 → Clean s
  wr : ∀ d out out2, ok d → (M d (.wr false out)).2 = .wr false out2 → ∃ u, out2 = out ++ u ∧ u.length % 4 = 0 ∧ ∀ inp, (out ++ u) <+: inp → (M d0 (.rd inp out.length 0 false)).2 = .rd inp (out ++ u).length 0 false
  back : ∀ inp pos p2, pos ≤ inp.length → (M d0 (.rd inp pos 0 false)).2 = .rd inp p2 0 false → pos ≤ p2 ∧ p2 ≤ inp.length ∧ ∀ out, (M (M d0 (.rd inp pos 0 false)).1 (.wr false out)).2 = .wr false (out ++ (inp.drop pos).take (p2 - pos))

theorem ext_none {D : Type} (ok : D → Prop) (d0 : D) : Ext ok d0 (fun d s => (d, s)) where
  like := fun _ _ => Like.refl _
  clean := fun _ _ h => h
  wr := fun d out out2 _ h => ⟨[], by simp only [St.wr.injEq, true_and] at h; rw [← h, List.append_nil], rfl, fun inp _ => by simp⟩
  back := fun inp pos p2 hle h => by
    simp only [St.rd.injEq, true_and, and_true] at h
    subst h
    exact ⟨Nat.le_refl _, hle, fun out => by simp⟩
theorem ext_row {most : Int} (hm : most < 4294967296) : Ext (fun _ => True) [] (fun (d : List UInt8) s => s.row most d) where
  like := fun d s => like_row _ _ _
  clean := fun d s h => clean_row h
  wr := fun d out out2 _ h => by
    have h' : (!decide ((d.length : Int) ≤ most)) = false ∧ out ++ row d = out2 := by
      have h2 : St.wr (false || !decide ((d.length : Int) ≤ most)) (out ++ row d) = .wr false out2 := h
      simpa using h2
    obtain ⟨hb, h'⟩ := h'
    simp only [Bool.not_eq_false', decide_eq_true_eq] at hb
    refine ⟨row d, h'.symm, row_four _, fun inp hp => ?_⟩
    obtain ⟨suf, p1, p2⟩ := drop_pre hp
    have hr := rbytes_full p1 p2 (by omega) hb
    simp only [St.row, hr]
    simp
  back := fun inp pos p2 hle h => by
    obtain ⟨⟨v, p, e⟩, hr⟩ : ∃ r : List UInt8 × Nat × Int, rbytes most inp pos 0 = r := ⟨_, rfl⟩
    have e1 : St.row most [] (.rd inp pos 0 false) = (v, .rd inp p e false) := by simp only [St.row, hr]
    rw [e1] at h ⊢
    simp only [St.rd.injEq, true_and, and_true] at h
    obtain ⟨rfl, rfl⟩ := h
    obtain ⟨q1, q2, q3, q4⟩ := rbytes_back hr
    refine ⟨q1, q2, fun out => ?_⟩
    show St.wr (false || !decide ((v.length : Int) ≤ most)) (out ++ row v) = _
    rw [q3, decide_eq_true q4]; rfl

/-- A whole way: h; where what it read says so, g, then the data, then p. -/
def whole {D : Type} (h g p : X → X) (M : D → St → D × St) (o : Nat) (c : Option Value → Bool) (x : X) (d : D) : X × D :=
  if c ((h x).2 o) && !(h x).1.bad then (p ((M d (g (h x)).1).2, (g (h x)).2), (M d (g (h x)).1).1) else (h x, d)

section
variable {lay : List Ty} {S T Sg Tg Sp Tp : List Nat} {D : Type} {ok : D → Prop} {d0 : D} {h g p : X → X} {M : D → St → D × St} {o : Nat} {c : Option Value → Bool}
theorem clean_bad {s : St} (hs : Clean s) : s.bad = false := by
  cases s with
  | wr b o => exact hs
  | rd i q e b => exact hs.2
theorem whole_like (hh : Two lay S T h) (hg : Two lay Sg Tg g) (hp : Two lay Sp Tp p) (hM : Ext ok d0 M) (x : X) (d : D) : Like (whole h g p M o c x d).1.1 x.1 := by
  unfold whole
  split
  · exact (hp.like _).trans ((hM.like _ _).trans ((hg.like _).trans (hh.like x)))
  · exact hh.like x
theorem whole_ty (hh : Two lay S T h) (hg : Two lay Sg Tg g) (hp : Two lay Sp Tp p) (x : X) (d : D) (hx : Typed lay x.2) : Typed lay (whole h g p M o c x d).1.2 := by
  unfold whole
  split
  · exact hp.ty _ (hg.ty _ (hh.ty x hx))
  · exact hh.ty x hx
theorem whole_clean (hh : Two lay S T h) (hg : Two lay Sg Tg g) (hp : Two lay Sp Tp p) (hM : Ext ok d0 M) (x : X) (d : D) (hc : Clean (whole h g p M o c x d).1.1) : Clean (h x).1 := by
  unfold whole at hc
  split at hc
  · exact hg.clean _ (hM.clean _ _ (hp.clean _ hc))
  · exact hc
/-- What was written is read. -/
theorem whole_wr (hh : Two lay S T h) (ho : o ∈ S) (hg : Two lay Sg Tg g) (hp : Two lay Sp Tp p) (hM : Ext ok d0 M) (A : Cells) (d : D) (out : List UInt8) (hA : Typed lay A) (hd : ok d) (hw : (whole h g p M o c (.wr false [], A) d).1.1 = .wr false out) :
    out.length % 4 = 0 ∧ ∀ Z, Typed lay Z → (whole h g p M o c (.rd out 0 0 false, Z) d0).1.1 = .rd out out.length 0 false := by
  have hc := whole_clean hh hg hp hM (.wr false [], A) d (by rw [hw]; rfl)
  obtain ⟨o1, h1⟩ := clean_wr (out := []) hc (hh.like _) rfl
  obtain ⟨d1, e1, m1, r1⟩ := hh.wr A [] o1 hA h1
  rw [List.nil_append] at e1
  subst e1
  have hA1 := hh.ty (.wr false [], A) hA
  have eh : h (.wr false [], A) = (.wr false o1, (h (.wr false [], A)).2) := Prod.ext h1 rfl
  unfold whole at hw
  rw [clean_bad hc] at hw
  by_cases hcc : c ((h (.wr false [], A)).2 o) = true
  · rw [hcc, show (true && !false) = true from rfl, if_pos rfl] at hw
    have c3 : Clean ((M d (g (h (.wr false [], A))).1).2) := hp.clean (_, _) (by rw [hw]; rfl)
    have c2 := hM.clean _ _ c3
    obtain ⟨o2, h2⟩ := clean_wr (out := []) c2 ((hg.like _).trans (hh.like _)) rfl
    obtain ⟨o3, h3⟩ := clean_wr (out := []) c3 ((hM.like _ _).trans ((hg.like _).trans (hh.like _))) rfl
    have h2' := h2
    rw [eh] at h2'
    obtain ⟨d2, rfl, m2, r2⟩ := hg.wr _ _ _ hA1 h2'
    have h3' := h3
    rw [h2] at h3'
    obtain ⟨d3, rfl, m3, r3⟩ := hM.wr _ _ _ hd h3'
    have hA2 := hg.ty _ hA1
    rw [h3] at hw
    obtain ⟨d4, rfl, m4, r4⟩ := hp.wr _ _ _ (hg.ty (h (.wr false [], A)) hA1) hw
    refine ⟨by simp only [List.length_append]; omega, fun Z hZ => ?_⟩
    have p3 : (o1 ++ d2 ++ d3) <+: (o1 ++ d2 ++ d3 ++ d4) := List.prefix_append _ _
    have p2 : (o1 ++ d2) <+: (o1 ++ d2 ++ d3 ++ d4) := (List.prefix_append _ _).trans p3
    have p1 : o1 <+: (o1 ++ d2 ++ d3 ++ d4) := (List.prefix_append _ _).trans p2
    obtain ⟨z1, s1⟩ := r1 _ Z hZ (by rw [List.nil_append]; exact p1)
    rw [List.nil_append] at z1
    simp only [List.length_nil] at z1 s1
    have ez : h (.rd (o1 ++ d2 ++ d3 ++ d4) 0 0 false, Z) = (.rd (o1 ++ d2 ++ d3 ++ d4) o1.length 0 false, (h (.rd (o1 ++ d2 ++ d3 ++ d4) 0 0 false, Z)).2) := Prod.ext z1 rfl
    have hcz : c ((h (.rd (o1 ++ d2 ++ d3 ++ d4) 0 0 false, Z)).2 o) = true := by
      have := s1 o ho
      rw [this]; exact hcc
    have hZ1 := hh.ty (.rd (o1 ++ d2 ++ d3 ++ d4) 0 0 false, Z) hZ
    unfold whole
    rw [hcz, z1]
    rw [show (true && !(St.rd (o1 ++ d2 ++ d3 ++ d4) o1.length 0 false).bad) = true from rfl, if_pos rfl]
    obtain ⟨z2, _⟩ := r2 _ _ hZ1 p2
    rw [ez]
    show (p ((M d0 (g (.rd (o1 ++ d2 ++ d3 ++ d4) o1.length 0 false, (h (.rd (o1 ++ d2 ++ d3 ++ d4) 0 0 false, Z)).2)).1).2, _)).1 = _
    rw [z2, r3 _ p3]
    exact (r4 _ _ (hg.ty (.rd (o1 ++ d2 ++ d3 ++ d4) o1.length 0 false, (h (.rd (o1 ++ d2 ++ d3 ++ d4) 0 0 false, Z)).2) hZ1) (List.prefix_refl _)).1
  · rw [show (c ((h (.wr false [], A)).2 o)) = false by simpa using hcc] at hw
    rw [show (false && !false) = false from rfl, if_neg (by decide), h1] at hw
    obtain rfl : o1 = out := by simpa using hw
    refine ⟨m1, fun Z hZ => ?_⟩
    obtain ⟨z1, s1⟩ := r1 _ Z hZ (by rw [List.nil_append]; exact List.prefix_refl _)
    rw [List.nil_append] at z1
    simp only [List.length_nil] at z1 s1
    have hcz : c ((h (.rd o1 0 0 false, Z)).2 o) = false := by
      have := s1 o ho
      rw [this]; simpa using hcc
    unfold whole
    rw [hcz, if_neg (by simp)]
    exact z1
/-- What was read is written again. -/
theorem whole_back (hh : Two lay S T h) (ho : o ∈ S) (hg : Two lay Sg Tg g) (hp : Two lay Sp Tp p) (hM : Ext ok d0 M) (x1 : ∀ j ∈ T, j ∉ Tg) (x2 : ∀ j ∈ T, j ∉ Tp) (x3 : ∀ j ∈ Tg, j ∉ Tp) (A : Cells) (b : List UInt8) (hA : Typed lay A)
    (hr : (whole h g p M o c (.rd b 0 0 false, A) d0).1.1 = .rd b b.length 0 false) (B : Cells) (hB : Typed lay B) (hT : ∀ j, j ∈ T ∨ j ∈ Tg ∨ j ∈ Tp → B j = (whole h g p M o c (.rd b 0 0 false, A) d0).1.2 j) :
    (whole h g p M o c (.wr false [], B) (whole h g p M o c (.rd b 0 0 false, A) d0).2).1.1 = .wr false b := by
  have hc := whole_clean hh hg hp hM (.rd b 0 0 false, A) d0 (by rw [hr]; exact ⟨rfl, rfl⟩)
  obtain ⟨p1, h1⟩ := clean_rd hc (hh.like _)
  obtain ⟨a1, a2, a3⟩ := hh.back b 0 A p1 hA (Nat.zero_le _) h1
  have eh : h (.rd b 0 0 false, A) = (.rd b p1 0 false, (h (.rd b 0 0 false, A)).2) := Prod.ext h1 rfl
  have hA1 := hh.ty (.rd b 0 0 false, A) hA
  have hb0 := clean_bad hc
  by_cases hcc : c ((h (.rd b 0 0 false, A)).2 o) = true
  · have ew : whole h g p M o c (.rd b 0 0 false, A) d0 = (p ((M d0 (g (h (.rd b 0 0 false, A))).1).2, (g (h (.rd b 0 0 false, A))).2), (M d0 (g (h (.rd b 0 0 false, A))).1).1) := by
      unfold whole; rw [hcc, hb0]; rfl
    rw [ew] at hr hT ⊢
    have c3 : Clean ((M d0 (g (h (.rd b 0 0 false, A))).1).2) := hp.clean (_, _) (by rw [hr]; exact ⟨rfl, rfl⟩)
    have c2 := hM.clean _ _ c3
    obtain ⟨p2, h2⟩ := clean_rd c2 ((hg.like _).trans (hh.like _))
    obtain ⟨p3, h3⟩ := clean_rd c3 ((hM.like _ _).trans ((hg.like _).trans (hh.like _)))
    have hA2 := hg.ty _ hA1
    have h2' := h2
    rw [eh] at h2'
    obtain ⟨b1, b2, b3⟩ := hg.back b p1 _ p2 hA1 a2 h2'
    have h3' := h3
    rw [h2] at h3'
    obtain ⟨c1, c2', c3'⟩ := hM.back b p2 p3 b2 h3'
    have hr' := hr
    rw [h3] at hr'
    obtain ⟨e1, e2, e3⟩ := hp.back b p3 _ _ hA2 c2' hr'
    have tT : ∀ j ∈ T, B j = (h (.rd b 0 0 false, A)).2 j := fun j hj => by
      rw [hT j (.inl hj)]
      show (p (_, _)).2 j = _
      rw [hp.fr _ j (x2 j hj)]
      exact hg.fr _ j (x1 j hj)
    have tG : ∀ j ∈ Tg, B j = (g (h (.rd b 0 0 false, A))).2 j := fun j hj => by
      rw [hT j (.inr (.inl hj))]
      exact hp.fr _ j (x3 j hj)
    have w1 := a3 B [] hB tT
    have w2 := b3 B ([] ++ (b.drop 0).take (p1 - 0)) hB (by rw [← eh]; exact tG)
    have w3 := c3' ([] ++ (b.drop 0).take (p1 - 0) ++ (b.drop p1).take (p2 - p1))
    have w4 := e3 B ([] ++ (b.drop 0).take (p1 - 0) ++ (b.drop p1).take (p2 - p1) ++ (b.drop p2).take (p3 - p2)) hB (fun j hj => by rw [hT j (.inr (.inr hj)), h3])
    unfold whole
    rw [w1]
    rw [show c ((St.wr false ([] ++ (b.drop 0).take (p1 - 0)), B).2 o) = true by show c (B o) = true; rw [tT o (hh.sub o ho)]; exact hcc]
    rw [show (true && !(St.wr false ([] ++ (b.drop 0).take (p1 - 0)), B).1.bad) = true from rfl, if_pos rfl, w2]
    show (p ((M (M d0 (g (h (.rd b 0 0 false, A))).1).1 (.wr false ([] ++ (b.drop 0).take (p1 - 0) ++ (b.drop p1).take (p2 - p1)))).2, B)).1 = _
    rw [h2, w3, w4]
    show St.wr false ([] ++ (b.drop 0).take (p1 - 0) ++ (b.drop p1).take (p2 - p1) ++ (b.drop p2).take (p3 - p2) ++ (b.drop p3).take (b.length - p3)) = _
    rw [List.nil_append, take_two _ a1 b1, take_two _ (Nat.le_trans a1 b1) c1, take_two _ (Nat.le_trans (Nat.le_trans a1 b1) c1) e1]
    simp
  · have hcf : c ((h (.rd b 0 0 false, A)).2 o) = false := by simpa using hcc
    have ew : whole h g p M o c (.rd b 0 0 false, A) d0 = (h (.rd b 0 0 false, A), d0) := by
      unfold whole; rw [hcf]; rfl
    rw [ew] at hr hT ⊢
    have hp1 : p1 = b.length := by
      have : (h (.rd b 0 0 false, A)).1 = .rd b b.length 0 false := hr
      rw [h1] at this
      simpa using this
    have tT : ∀ j ∈ T, B j = (h (.rd b 0 0 false, A)).2 j := fun j hj => hT j (.inl hj)
    have w1 := a3 B [] hB tT
    unfold whole
    rw [w1]
    rw [show c ((St.wr false ([] ++ (b.drop 0).take (p1 - 0)), B).2 o) = false by show c (B o) = false; rw [tT o (hh.sub o ho)]; exact hcf]
    rw [if_neg (by simp)]
    show St.wr false ([] ++ (b.drop 0).take (p1 - 0)) = _
    rw [hp1]; simp
end

end Go.Proofs.Ytanknjpcgceccaa
