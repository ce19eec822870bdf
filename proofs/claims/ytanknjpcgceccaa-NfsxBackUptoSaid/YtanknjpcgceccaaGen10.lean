/- nfsx's coder: args of any procedure; is; ended. (Printed by wip/tools/gen_gen10.py.) -/
import Derived.Test.YtanknjpcgceccaaGen9
namespace Go.Proofs.Ytanknjpcgceccaa
open Go.RowKit

/-- All of a procedure's arguments: the state behind, the cells but for the data's, the data. -/
def pAll (k : Nat) (x : X) (ds : List UInt8) : X × List UInt8 :=
  if k = 7 then (let y := pArgs 7 x; let r := y.1.row 8192 ds; ((r.2, y.2), r.1)) else (pArgs k x, ds)
def thereN (k : Nat) : Prop := k ≤ 21 ∨ (100 ≤ k ∧ k ≤ 105)

/-- What 'args' leaves. -/
def ArgsP (w : World) (c : Nat) (F : Nat → Prop) (g : Nat) (xo : Option Addr) (n : Nat) (y : X) (ds : List UInt8) (e : Ending) (w' : World) : Prop :=
  e = .returned (.tuple #[]) ∧ ∃ F' xo' xc', Hid (CO w' c F' y.1) ∧ Hid (GG w F g w' F') ∧ Hid (Blk w' g (upd y.2 28 (.slice xo' ds.length xc'))) ∧ Hid (SlB w' xo' xc' ds) ∧
    Hid (∀ k, rb xo' ds.length k → k < w'.heap.size ∧ ¬ F' k ∧ k ≠ g ∧ (rb xo n k ∨ w.heap.size ≤ k)) ∧ Hid (∃ dv, Typed (argLay dv) y.2) ∧ Hid (¬ F' g) ∧ Hid (y.1.size ≤ 20000000)

theorem args_any (k : Nat) (hk : thereN k) (c : Nat) (F : Nat → Prop) (g : Nat) (x : X) (xo : Option Addr) (xc : Nat) (ds : List UInt8) (w : World) (h : At w c F g x) (hx : Ok (argLay (.slice xo ds.length xc)) 0 x) (hs : SlB w xo xc ds) (hxb : ∀ k, rb xo ds.length k → k < w.heap.size ∧ ¬ F k ∧ k ≠ g) (hlen : ds.length ≤ 2000000) :
    Calls Try.prog 22 #[.pointer (some ⟨c, 0, none⟩), .int .i64 (k : Int), .pointer (some ⟨g, 0, none⟩)] w (ArgsP w c F g xo ds.length (pAll k x ds).1 (pAll k x ds).2) := by
  have key : ∀ k', k' ≠ 7 → ∀ e w', GQ w c F g (.tuple #[]) (pArgs k' x) e w' ∧ Ok (argLay (.slice xo ds.length xc)) 18000000 (pArgs k' x) → ArgsP w c F g xo ds.length (pAll k' x ds).1 (pAll k' x ds).2 e w' := by
    intro k' hk' e w' ⟨⟨he, F', q1, q2⟩, q3⟩
    have hp : pAll k' x ds = (pArgs k' x, ds) := if_neg hk'
    rw [hp]
    have hd : (pArgs k' x).2 28 = some (.slice xo ds.length xc) := q3.ty 28 _ rfl
    exact ⟨he, F', xo, xc, q1.out.co, q2, q1.out.bl.congr (upd_self hd).symm, hs.keep q2.out.mods fun j hj hf => hf.elim (hxb j hj).2.1 (hxb j hj).2.2,
      fun j hj => ⟨Nat.lt_of_lt_of_le (hxb j hj).1 q2.out.mods.size, q2.out.apart (hxb j hj).2.1 (hxb j hj).1, (hxb j hj).2.2, .inl hj⟩, ⟨_, q3.ty⟩, q1.out.ap, Nat.le_trans q3.size (by decide)⟩
  have hcases : k = 0 ∨ k = 1 ∨ k = 2 ∨ k = 3 ∨ k = 4 ∨ k = 5 ∨ k = 6 ∨ k = 7 ∨ k = 8 ∨ k = 9 ∨ k = 10 ∨ k = 11 ∨ k = 12 ∨ k = 13 ∨ k = 14 ∨ k = 15 ∨ k = 16 ∨ k = 17 ∨ k = 18 ∨ k = 19 ∨ k = 20 ∨ k = 21 ∨ k = 100 ∨ k = 101 ∨ k = 102 ∨ k = 103 ∨ k = 104 ∨ k = 105 := by unfold thereN at hk; omega
  rcases hcases with rfl | rfl | rfl | rfl | rfl | rfl | rfl | rfl | rfl | rfl | rfl | rfl | rfl | rfl | rfl | rfl | rfl | rfl | rfl | rfl | rfl | rfl | rfl | rfl | rfl | rfl | rfl | rfl
  · exact (args_0 c F g x _ w h hx).mono (key 0 (by decide))
  · exact (args_1 c F g x _ w h hx).mono (key 1 (by decide))
  · exact (args_2 c F g x _ w h hx).mono (key 2 (by decide))
  · exact (args_3 c F g x _ w h hx).mono (key 3 (by decide))
  · exact (args_4 c F g x _ w h hx).mono (key 4 (by decide))
  · exact (args_5 c F g x _ w h hx).mono (key 5 (by decide))
  · exact (args_6 c F g x _ w h hx).mono (key 6 (by decide))
  · refine (args_7 c F g x xo xc ds _ rfl w h hx hs hxb hlen).mono ?_
    rintro e w' ⟨⟨F', yo, yc, he, q1, q2, q3, q4, q5⟩, q6⟩
    exact ⟨he, F', yo, yc, q1, q2, q3, q4, q5, ⟨_, q6.ty⟩, q2.apart h.ap h.bl.lt, by
      have h1 := St.size_row (pArgs 7 x).1 8192 ds
      have h2 := q6.size
      show _ ≤ _
      simp only [pAll, if_true]
      omega⟩
  · exact (args_8 c F g x _ w h hx).mono (key 8 (by decide))
  · exact (args_9 c F g x _ w h hx).mono (key 9 (by decide))
  · exact (args_10 c F g x _ w h hx).mono (key 10 (by decide))
  · exact (args_11 c F g x _ w h hx).mono (key 11 (by decide))
  · exact (args_12 c F g x _ w h hx).mono (key 12 (by decide))
  · exact (args_13 c F g x _ w h hx).mono (key 13 (by decide))
  · exact (args_14 c F g x _ w h hx).mono (key 14 (by decide))
  · exact (args_15 c F g x _ w h hx).mono (key 15 (by decide))
  · exact (args_16 c F g x _ w h hx).mono (key 16 (by decide))
  · exact (args_17 c F g x _ w h hx).mono (key 17 (by decide))
  · exact (args_18 c F g x _ w h hx).mono (key 18 (by decide))
  · exact (args_19 c F g x _ w h hx).mono (key 19 (by decide))
  · exact (args_20 c F g x _ w h hx).mono (key 20 (by decide))
  · exact (args_21 c F g x _ w h hx).mono (key 21 (by decide))
  · exact (args_100 c F g x _ w h hx).mono (key 100 (by decide))
  · exact (args_101 c F g x _ w h hx).mono (key 101 (by decide))
  · exact (args_102 c F g x _ w h hx).mono (key 102 (by decide))
  · exact (args_103 c F g x _ w h hx).mono (key 103 (by decide))
  · exact (args_104 c F g x _ w h hx).mono (key 104 (by decide))
  · exact (args_105 c F g x _ w h hx).mono (key 105 (by decide))

/-! ### It writes, or it reads, to the end -/
def St.isWr : St → Bool
  | .wr .. => true
  | .rd .. => false
def St.inp : St → List UInt8
  | .wr .. => []
  | .rd i .. => i
/-- The same kind of state, over the same bytes. -/
def Like (s t : St) : Prop := s.isWr = t.isWr ∧ s.inp = t.inp
theorem Like.refl (s : St) : Like s s := ⟨rfl, rfl⟩
theorem Like.trans {a b c : St} (h : Like a b) (g : Like b c) : Like a c := ⟨h.1.trans g.1, h.2.trans g.2⟩
theorem like_must (s : St) (b : Bool) : Like (s.must b) s := by cases s <;> exact ⟨rfl, rfl⟩
theorem like_num (s : St) (n : Nat) (v : Int) : Like (s.num n v).2 s := by cases s <;> exact ⟨rfl, rfl⟩
theorem like_truth (s : St) (b : Bool) : Like (s.truth b).2 s := by cases s <;> exact ⟨rfl, rfl⟩
theorem like_row (s : St) (m : Int) (xs : List UInt8) : Like (s.row m xs).2 s := by cases s <;> exact ⟨rfl, rfl⟩
theorem like_number (s : St) (lo hi v : Int) : Like (s.number lo hi v).2 s := by
  cases s
  · exact (like_num _ _ _).trans (like_must _ _)
  · exact ⟨rfl, rfl⟩
theorem like_num1 (n : Nat) (k : IntKind) (o : Nat) (x : X) : Like (num1 n k o x).1 x.1 := like_num _ _ _
theorem like_nums2 (n : Nat) (k : IntKind) (a b : Nat) (x : X) : Like (nums n k [a, b] x).1 x.1 := (like_num1 n k b _).trans (like_num1 n k a x)
theorem like_pTruth (o : Nat) (x : X) : Like (pTruth o x).1 x.1 := like_truth _ _
theorem like_pNumber (lo hi : Int) (o : Nat) (x : X) : Like (pNumber lo hi o x).1 x.1 := like_number _ _ _ _
theorem like_pText (m : Int) (o : Nat) (x : X) : Like (pText m o x).1 x.1 := like_row _ _ _
theorem like_pTime (o : Nat) (x : X) : Like (pTime o x).1 x.1 := like_nums2 _ _ _ _ _
theorem like_pHow (v t : Nat) (x : X) : Like (pHow v t x).1 x.1 := by
  unfold pHow
  simp only
  split
  · exact (like_pTime _ _).trans (like_pNumber _ _ _ _)
  · exact like_pNumber _ _ _ _
theorem like_pIf {o : Nat} {f : X → X} {x : X} (h : Like (f x).1 x.1) : Like (pIf o f x).1 x.1 := by
  unfold pIf
  split
  · exact h
  · exact Like.refl _
theorem like_pSet (o : Nat) (x : X) : Like (pSet o x).1 x.1 := by
  unfold pSet
  exact (like_pHow _ _ _).trans ((like_pHow _ _ _).trans ((like_pIf (like_num1 _ _ _ _)).trans ((like_pTruth _ _).trans ((like_pIf (like_num1 _ _ _ _)).trans ((like_pTruth _ _).trans ((like_pIf (like_num1 _ _ _ _)).trans ((like_pTruth _ _).trans ((like_pIf (like_pNumber _ _ _ _)).trans (like_pTruth _ _)))))))))
theorem like_pNamed (k : Nat) (x : X) : Like (pNamed k x).1 x.1 := by
  unfold pNamed
  split
  · simp only
    split
    · exact (like_num1 _ _ _ _).trans (like_pNumber _ _ _ _)
    · exact (like_pSet _ _).trans (like_pNumber _ _ _ _)
  · exact like_pSet _ _
  · exact (like_pText _ _ _).trans (like_pSet _ _)
  · simp only
    split
    · exact (like_nums2 _ _ _ _ _).trans ((like_pSet _ _).trans (like_pNumber _ _ _ _))
    · split
      · exact (like_nums2 _ _ _ _ _).trans ((like_pSet _ _).trans (like_pNumber _ _ _ _))
      · split
        · exact (like_pSet _ _).trans (like_pNumber _ _ _ _)
        · split
          · exact (like_pSet _ _).trans (like_pNumber _ _ _ _)
          · exact like_pNumber _ _ _ _
  · exact (like_pText _ _ _).trans (like_pText _ _ _)
  · exact Like.refl _
theorem like_pArgs (k : Nat) (x : X) : Like (pArgs k x).1 x.1 := by
  unfold pArgs
  split
  all_goals first
    | exact Like.refl _
    | exact like_pText _ _ _
    | exact (like_num1 _ _ _ _).trans (like_pText _ _ _)
    | exact (like_num1 _ _ _ _).trans ((like_num1 _ _ _ _).trans (like_pText _ _ _))
    | exact (like_pNumber _ _ _ _).trans ((like_num1 _ _ _ _).trans ((like_num1 _ _ _ _).trans (like_pText _ _ _)))
    | exact (like_pIf (like_pTime _ _)).trans ((like_pTruth _ _).trans ((like_pSet _ _).trans (like_pText _ _ _)))
    | exact (like_pNamed _ _).trans ((like_pText _ _ _).trans (like_pText _ _ _))
    | exact (like_pText _ _ _).trans ((like_pText _ _ _).trans (like_pText _ _ _))
    | exact (like_num1 _ _ _ _).trans ((like_nums2 _ _ _ _ _).trans (like_pText _ _ _))
    | exact (like_nums2 _ _ _ _ _).trans ((like_nums2 _ _ _ _ _).trans (like_pText _ _ _))
theorem like_pAll (k : Nat) (x : X) (ds : List UInt8) : Like (pAll k x ds).1.1 x.1 := by
  unfold pAll
  split
  · exact (like_row _ _ _).trans (like_pArgs _ _)
  · exact like_pArgs _ _

/-- Is there such a procedure? -/
def there (p : Int) : Bool := (decide (0 ≤ p) && decide (p ≤ 21)) || (decide (100 ≤ p) && decide (p ≤ 105))
theorem there_nat {p : Int} (h : there p = true) : ∃ k : Nat, p = (k : Int) ∧ thereN k := by
  simp only [there, Bool.or_eq_true, Bool.and_eq_true, decide_eq_true_eq] at h
  refine ⟨p.toNat, by omega, ?_⟩
  unfold thereN
  omega

theorem is_any (p : Int) (w : World) : Calls Try.prog 20 #[.int .i64 p] w fun e w' => e = .returned (.bool (there p)) ∧ w = w' := by
  by_cases h0 : 0 ≤ p
  · by_cases h1 : p ≤ 21
    · have ht : there p = true := by simp [there, h0, h1]
      rw [ht]
      go_enter Try.func20, Try.ntmps20
      go_wp2
      go_ret
      exact ⟨rfl, rfl⟩
    · by_cases h2 : 100 ≤ p
      · by_cases h3 : p ≤ 105
        · have ht : there p = true := by simp [there, h2, h3]
          rw [ht]
          go_enter Try.func20, Try.ntmps20
          go_wp2
          go_ret
          exact ⟨rfl, rfl⟩
        · have ht : there p = false := by simp [there, h1, h3]
          rw [ht]
          go_enter Try.func20, Try.ntmps20
          go_wp2
          go_ret
          exact ⟨rfl, rfl⟩
      · have ht : there p = false := by simp [there, h1, h2]
        rw [ht]
        go_enter Try.func20, Try.ntmps20
        go_wp2
        go_ret
        exact ⟨rfl, rfl⟩
  · have h4 : ¬ 100 ≤ p := by omega
    have ht : there p = false := by simp [there, h0, h4]
    rw [ht]
    go_enter Try.func20, Try.ntmps20
    go_wp2
    go_ret
    exact ⟨rfl, rfl⟩

/-- All was read, and all may be so. -/
def endedB (inp : List UInt8) (pos : Nat) (err : Int) (bad : Bool) : Bool := !bad && (err == 0 && ((inp.length : Int) - (pos : Int) == 0))
set_option maxRecDepth 100000 in
set_option maxHeartbeats 1000000 in
theorem ended_any (c r : Nat) (ao : Option Addr) (cap : Nat) (inp : List UInt8) (pos : Nat) (err : Int) (bad : Bool) (w : World) (h : CR w c r ao cap inp pos err bad) :
    Calls Try.prog 23 #[.pointer (some ⟨c, 0, none⟩)] w fun e w' => e = .returned (.bool (endedB inp pos err bad)) ∧ Quiet w w' := by
  have hc2 := h.c2
  have hc0 := h.c0
  have HE := hid (Err_any r ao cap inp pos err w h.rd)
  have HL := hid (Left_any r ao cap inp pos err w h.rd)
  clear h
  cases bad
  · by_cases he : err = 0
    · subst he
      go_enter Try.func23, Try.ntmps23
      go_wp2_with fail
      refine HE.out.mono ?_
      rintro e w1 ⟨rfl, rfl⟩
      go_wp2_with fail
      refine HL.out.mono ?_
      rintro e w2 ⟨rfl, hq⟩
      have HQ := hid hq
      clear hq hc2 hc0
      go_wp2
      go_ret
      exact ⟨by simp [endedB], HQ.out⟩
    · have he' : (err == 0) = false := by simpa using he
      go_enter Try.func23, Try.ntmps23
      go_wp2_with fail
      refine HE.out.mono ?_
      rintro e w1 ⟨rfl, rfl⟩
      clear hc2 hc0
      go_wp2
      go_ret
      exact ⟨by simp [endedB, he'], Quiet.refl _⟩
  · go_enter Try.func23, Try.ntmps23
    go_wp2
    go_ret
    exact ⟨by simp [endedB], Quiet.refl _⟩

end Go.Proofs.Ytanknjpcgceccaa
