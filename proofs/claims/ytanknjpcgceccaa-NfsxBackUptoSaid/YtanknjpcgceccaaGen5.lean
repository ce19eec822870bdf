/- nfsx's coder: what a call leaves, in one word; time, how. -/
import Derived.Test.YtanknjpcgceccaaGen4
import Derived.Test.YtanknjpcgceccaaMid
namespace Go.Proofs.Ytanknjpcgceccaa
open Go.RowKit

/-! ### What lies where -/
inductive Ty where
  | int | u32 | u64 | bool | str | any | is (v : Value)
def HasTy : Ty → Option Value → Prop
  | .int, x => ∃ v, x = some (.int .i64 v)
  | .u32, x => ∃ v, x = some (.int .u32 v) ∧ 0 ≤ v ∧ v < ((256 ^ 4 : Nat) : Int)
  | .u64, x => ∃ v, x = some (.int .u64 v) ∧ 0 ≤ v ∧ v < ((256 ^ 8 : Nat) : Int)
  | .bool, x => ∃ b, x = some (.bool b)
  | .str, x => ∃ xs : List UInt8, x = some (.string (str xs)) ∧ xs.length ≤ 2000000
  | .any, _ => True
  | .is v, x => x = some v
/-- The cells are as the layout says. -/
def Typed (lay : List Ty) (A : Cells) : Prop := ∀ j t, lay[j]? = some t → HasTy t (A j)
theorem Typed.upd {lay : List Ty} {A : Cells} (h : Typed lay A) {o : Nat} {v : Value} (hv : ∀ t, lay[o]? = some t → HasTy t (some v)) : Typed lay (upd A o v) := by
  intro j t hj
  by_cases e : j = o
  · subst e; rw [upd_at]; exact hv t hj
  · rw [upd_ne _ _ e]; exact h j t hj
theorem Typed.upd' {lay : List Ty} {A : Cells} (h : Typed lay A) {o : Nat} {v : Value} {t : Ty} (ho : lay[o]? = some t) (hv : HasTy t (some v)) : Typed lay (Go.Proofs.Ytanknjpcgceccaa.upd A o v) :=
  h.upd fun t' h' => by rw [ho] at h'; obtain rfl := Option.some.inj h'; exact hv

def bv : Option Value → Bool
  | some (.bool b) => b
  | _ => false
def sv : Option Value → List UInt8
  | some (.string s) => s.data.toList
  | _ => []
theorem sv_str (xs : List UInt8) : sv (some (.string (str xs))) = xs := by simp [sv, str]
theorem HasTy.bv {x : Option Value} (h : HasTy .bool x) : x = some (.bool (Go.Proofs.Ytanknjpcgceccaa.bv x)) := by obtain ⟨b, rfl⟩ := h; rfl
theorem HasTy.iv {x : Option Value} (h : HasTy .int x) : x = some (.int .i64 (Go.Proofs.Ytanknjpcgceccaa.iv x)) := by obtain ⟨b, rfl⟩ := h; rfl
theorem HasTy.sv {x : Option Value} (h : HasTy .str x) : x = some (.string (str (Go.Proofs.Ytanknjpcgceccaa.sv x))) ∧ (Go.Proofs.Ytanknjpcgceccaa.sv x).length ≤ 2000000 := by
  obtain ⟨b, rfl, hl⟩ := h; rw [sv_str]; exact ⟨rfl, hl⟩

/-! ### Steps -/
abbrev X := St × Cells
def pTruth (o : Nat) (x : X) : X := let r := x.1.truth (bv (x.2 o)); (r.2, upd x.2 o (.bool r.1))
def pNumber (lo hi : Int) (o : Nat) (x : X) : X := let r := x.1.number lo hi (iv (x.2 o)); (r.2, upd x.2 o (.int .i64 r.1))
def pText (most : Int) (o : Nat) (x : X) : X := let r := x.1.row most (sv (x.2 o)); (r.2, upd x.2 o (.string (str r.1)))
def pTime (o : Nat) (x : X) : X := nums 4 .u32 [o, o + 1] x
def pHow (v t : Nat) (x : X) : X := let y := pNumber 0 2 v x; if iv (y.2 v) = 2 then pTime t y else (y.1, upd (upd y.2 t (.int .u32 0)) (t + 1) (.int .u32 0))

/-- Typed, and not too much written. -/
structure Ok (lay : List Ty) (n : Nat) (x : X) : Prop where
  ty : Typed lay x.2
  size : x.1.size ≤ n
theorem Ok.mono {lay : List Ty} {n m : Nat} {x : X} (h : Ok lay n x) (hm : n ≤ m) : Ok lay m x := ⟨h.ty, Nat.le_trans h.size hm⟩
theorem Ok.truth {lay : List Ty} {n : Nat} {x : X} (h : Ok lay n x) {o : Nat} (ho : lay[o]? = some .bool) : Ok lay (n + 4) (pTruth o x) :=
  ⟨h.ty.upd' ho ⟨_, rfl⟩, Nat.le_trans (St.size_truth _ _) (Nat.add_le_add_right h.size 4)⟩
theorem Ok.number {lay : List Ty} {n : Nat} {x : X} (h : Ok lay n x) {o : Nat} {lo hi : Int} (ho : lay[o]? = some .int) : Ok lay (n + 4) (pNumber lo hi o x) :=
  ⟨h.ty.upd' ho ⟨_, rfl⟩, Nat.le_trans (St.size_number _ _ _ _) (Nat.add_le_add_right h.size 4)⟩
theorem Ok.num1 {lay : List Ty} {n : Nat} {x : X} (h : Ok lay n x) {o : Nat} (ho : lay[o]? = some .u32) : Ok lay (n + 4) (num1 4 .u32 o x) := by
  have h1 := h.ty o _ ho
  obtain ⟨v, hv, hr⟩ := h1
  refine ⟨h.ty.upd' ho ⟨_, rfl, num_range _ _ _ ?_⟩, Nat.le_trans (St.size_num _ _ _) (Nat.add_le_add_right h.size 4)⟩
  rw [hv]; exact hr
theorem Ok.num8 {lay : List Ty} {n : Nat} {x : X} (h : Ok lay n x) {o : Nat} (ho : lay[o]? = some .u64) : Ok lay (n + 8) (Go.Proofs.Ytanknjpcgceccaa.num1 8 .u64 o x) := by
  have h1 := h.ty o _ ho
  obtain ⟨v, hv, hr⟩ := h1
  refine ⟨h.ty.upd' ho ⟨_, rfl, num_range _ _ _ ?_⟩, Nat.le_trans (St.size_num _ _ _) (Nat.add_le_add_right h.size 8)⟩
  rw [hv]; exact hr
theorem rbytes_length (most : Int) (hm : 0 ≤ most) (inp : List UInt8) (pos : Nat) (err : Int) : ((rbytes most inp pos err).1.length : Int) ≤ most := by
  unfold rbytes
  simp only
  split
  · split
    · simp; omega
    · rename_i h1
      split
      · rename_i h2
        have : (rfixed ((rnum 4 inp pos err).1 : Int) inp (rnum 4 inp pos err).2.1 0).1.length ≤ (rnum 4 inp pos err).1 := by
          unfold rfixed
          rw [if_pos rfl]
          split
          · simp
          · split
            · simp
            · split
              · simp; omega
              · simp
        omega
      · simp; omega
  · simp; omega
theorem row_le (s : St) (most : Int) (hm : 0 ≤ most ∧ most ≤ 2000000) (xs : List UInt8) (hx : xs.length ≤ 2000000) : (s.row most xs).1.length ≤ 2000000 := by
  cases s with
  | wr b out => exact hx
  | rd inp pos err b =>
    have := rbytes_length most hm.1 inp pos err
    show (rbytes most inp pos err).1.length ≤ 2000000
    omega
theorem Ok.text {lay : List Ty} {n : Nat} {x : X} (h : Ok lay n x) {o : Nat} {most : Int} (hm : 0 ≤ most ∧ most ≤ 2000000) (ho : lay[o]? = some .str) : Ok lay (n + 2000008) (pText most o x) := by
  have h1 := (h.ty o _ ho).sv
  refine ⟨h.ty.upd' ho ⟨_, rfl, row_le _ _ hm _ h1.2⟩, Nat.le_trans (St.size_row _ _ _) ?_⟩
  have := h.size; have := h1.2; omega
theorem Ok.time {lay : List Ty} {n : Nat} {x : X} (h : Ok lay n x) {o : Nat} (h0 : lay[o]? = some .u32) (h1 : lay[o + 1]? = some .u32) : Ok lay (n + 8) (pTime o x) :=
  ((h.num1 h0).num1 h1).mono (by omega)
theorem Ok.how {lay : List Ty} {n : Nat} {x : X} (h : Ok lay n x) {v t : Nat} (hv : lay[v]? = some .int) (h0 : lay[t]? = some .u32) (h1 : lay[t + 1]? = some .u32) : Ok lay (n + 12) (pHow v t x) := by
  have hn := h.number (lo := 0) (hi := 2) hv
  unfold pHow
  simp only
  split
  · exact (hn.time h0 h1).mono (by omega)
  · exact ⟨(hn.ty.upd' h0 ⟨0, rfl, by decide, by decide⟩).upd' h1 ⟨0, rfl, by decide, by decide⟩, Nat.le_trans hn.size (by omega)⟩

/-! ### The world at a step -/
structure At (w : World) (c : Nat) (F : Nat → Prop) (g : Nat) (x : X) : Prop where
  co : CO w c F x.1
  bl : Blk w g x.2
  ap : ¬ F g
theorem At.keep {w w' : World} {c : Nat} {F : Nat → Prop} {g : Nat} {x : X} (h : At w c F g x) (hm : Mods (fun _ => False) w w') : At w' c F g x := ⟨h.co.keep hm fun _ _ h => h, h.bl.keep hm fun h => h, h.ap⟩
/-- What a call leaves. -/
def GQ (w : World) (c : Nat) (F : Nat → Prop) (g : Nat) (v : Value) (x : X) (e : Ending) (w' : World) : Prop := e = .returned v ∧ ∃ F', Hid (At w' c F' g x) ∧ Hid (GG w F g w' F')
theorem GP.q {w : World} {c : Nat} {F : Nat → Prop} {g : Nat} {v : Value} {x : X} {e : Ending} {w' : World} (h : GP w c F g v x.1 x.2 e w') (hg : ¬ F g) (hlt : g < w.heap.size) : GQ w c F g v x e w' := by
  obtain ⟨F', rfl, h1, h2, h3, h4⟩ := h
  have hgg : GG w F g w' F' := ⟨h2, h3⟩
  exact ⟨rfl, F', ⟨h1, h4, hgg.apart hg hlt⟩, hgg⟩

section
variable {w : World} {c : Nat} {F : Nat → Prop} {g : Nat} {x : X} {lay : List Ty} {n : Nat}
theorem At.truth (h : At w c F g x) (hk : Ok lay n x) (hn : n + 4 ≤ 20000000) {o : Nat} (ho : lay[o]? = some .bool) :
    Calls Try.prog 53 #[.pointer (some ⟨c, 0, none⟩), .pointer (some ⟨g, o, none⟩)] w (GQ w c F g (.bool (bv ((pTruth o x).2 o))) (pTruth o x)) := by
  have hs := hk.size
  refine (truth_gen c F x.1 g x.2 o _ w h.co h.bl h.ap (by omega) (hk.ty o _ ho).bv).mono fun e w' hq => ?_
  have : bv ((pTruth o x).2 o) = (x.1.truth (bv (x.2 o))).1 := by simp only [pTruth, upd_at, bv]
  rw [this]
  exact hq.q h.ap h.bl.lt
theorem At.number (h : At w c F g x) (hk : Ok lay n x) (hn : n + 4 ≤ 20000000) {o : Nat} {lo hi : Int} (ho : lay[o]? = some .int) :
    Calls Try.prog 57 #[.pointer (some ⟨c, 0, none⟩), .pointer (some ⟨g, o, none⟩), .int .i64 lo, .int .i64 hi] w (GQ w c F g (.tuple #[]) (pNumber lo hi o x)) := by
  have hs := hk.size
  exact (number_gen c F x.1 g x.2 o lo hi _ w h.co h.bl h.ap (by omega) (hk.ty o _ ho).iv).mono fun e w' hq => GP.q (x := pNumber lo hi o x) hq h.ap h.bl.lt
theorem At.text (h : At w c F g x) (hk : Ok lay n x) (hn : n + 2000008 ≤ 20000000) {o : Nat} {most : Int} (ho : lay[o]? = some .str) :
    Calls Try.prog 51 #[.pointer (some ⟨c, 0, none⟩), .pointer (some ⟨g, o, none⟩), .int .i64 most] w (GQ w c F g (.tuple #[]) (pText most o x)) := by
  have hs := hk.size
  have ht := (hk.ty o _ ho).sv
  exact (text_gen c F x.1 g x.2 o most _ w h.co h.bl h.ap (by omega) ht.1).mono fun e w' hq => GP.q (x := pText most o x) hq h.ap h.bl.lt
/-- One number behind its pointer's slice. -/
theorem At.u32 (h : At w c F g x) (hk : Ok lay n x) (hn : n + 4 ≤ 20000000) {o : Nat} (t : TypeId) (ho : lay[o]? = some .u32) :
    Calls Try.prog 55 #[.pointer (some ⟨c, 0, none⟩), .slice (some ⟨w.heap.size, 0, none⟩) 1 1] (w.alloc (.cells #[.pointer (some ⟨g, o, none⟩)] t)) (GQ w c F g (.tuple #[]) (num1 4 .u32 o x)) := by
  have hs := hk.size
  have hm : Mods (fun _ => False) w (w.alloc (.cells #[.pointer (some ⟨g, o, none⟩)] t)) := Mods.alloc _ _ _
  have h' := h.keep hm
  have hlt := h.bl.lt
  refine (u32_gen c F x.1 g x.2 _ 1 [o] _ h'.co h'.bl h'.ap (by simp; omega) (by simp) (by
    intro o' ho'
    simp only [List.mem_singleton] at ho'
    subst ho'
    exact hk.ty o' _ ho) (Sl.ptr w _ t) (fun k hk => by
    have hk' : w.heap.size = k := hk.2
    exact ⟨fun hf => by have := h.co.lt k hf; omega, by omega⟩)).mono fun e w' hq => ?_
  obtain ⟨he, F', h1, h2⟩ := GP.q (x := Go.Proofs.Ytanknjpcgceccaa.num1 4 .u32 o x) hq h'.ap h'.bl.lt
  exact ⟨he, F', h1, (GG.new g hm).trans h2.out⟩
theorem At.u64 (h : At w c F g x) (hk : Ok lay n x) (hn : n + 8 ≤ 20000000) {o : Nat} (t : TypeId) (ho : lay[o]? = some .u64) :
    Calls Try.prog 56 #[.pointer (some ⟨c, 0, none⟩), .slice (some ⟨w.heap.size, 0, none⟩) 1 1] (w.alloc (.cells #[.pointer (some ⟨g, o, none⟩)] t)) (GQ w c F g (.tuple #[]) (num1 8 .u64 o x)) := by
  have hs := hk.size
  have hm : Mods (fun _ => False) w (w.alloc (.cells #[.pointer (some ⟨g, o, none⟩)] t)) := Mods.alloc _ _ _
  have h' := h.keep hm
  have hlt := h.bl.lt
  refine (u64_gen c F x.1 g x.2 _ 1 [o] _ h'.co h'.bl h'.ap (by simp; omega) (by simp) (by
    intro o' ho'
    simp only [List.mem_singleton] at ho'
    subst ho'
    exact hk.ty o' _ ho) (Sl.ptr w _ t) (fun k hk => by
    have hk' : w.heap.size = k := hk.2
    exact ⟨fun hf => by have := h.co.lt k hf; omega, by omega⟩)).mono fun e w' hq => ?_
  obtain ⟨he, F', h1, h2⟩ := GP.q (x := Go.Proofs.Ytanknjpcgceccaa.num1 8 .u64 o x) hq h'.ap h'.bl.lt
  exact ⟨he, F', h1, (GG.new g hm).trans h2.out⟩
theorem Sl.two (w : World) (u v : Value) (t : TypeId) : Sl (w.alloc (.cells #[u, v] t)) 1 (some ⟨w.heap.size, 0, none⟩) 2 2 [u, v] := by
  have hob : (w.alloc (.cells #[u, v] t)).heap[w.heap.size]? = some (.cells #[u, v] t (0, 0)) := heap_alloc_new w _
  refine ⟨rfl, Nat.le_refl _, by simp, fun j y hy => ⟨_, _, rfl, ?_⟩⟩
  rw [Nat.zero_add, cell_of_row _ _ _ _ _ _ hob]
  simpa using hy
/-- Two numbers behind their pointers' slice. -/
theorem At.u32s (h : At w c F g x) (hk : Ok lay n x) (hn : n + 8 ≤ 20000000) {o o2 : Nat} (t : TypeId) (ho : lay[o]? = some .u32) (ho2 : lay[o2]? = some .u32) :
    Calls Try.prog 55 #[.pointer (some ⟨c, 0, none⟩), .slice (some ⟨w.heap.size, 0, none⟩) 2 2] (w.alloc (.cells #[.pointer (some ⟨g, o, none⟩), .pointer (some ⟨g, o2, none⟩)] t)) (GQ w c F g (.tuple #[]) (nums 4 .u32 [o, o2] x)) := by
  have hs := hk.size
  have hm : Mods (fun _ => False) w (w.alloc (.cells #[.pointer (some ⟨g, o, none⟩), .pointer (some ⟨g, o2, none⟩)] t)) := Mods.alloc _ _ _
  have h' := h.keep hm
  have hlt := h.bl.lt
  refine (u32_gen c F x.1 g x.2 _ 2 [o, o2] _ h'.co h'.bl h'.ap (by simp; omega) (by simp) (by
    intro o' ho'
    simp only [List.mem_cons, List.not_mem_nil, or_false] at ho'
    rcases ho' with rfl | rfl
    · exact hk.ty _ _ ho
    · exact hk.ty _ _ ho2) (Sl.two w _ _ t) (fun k hk => by
    have hk' : w.heap.size = k := hk.2
    exact ⟨fun hf => by have := h.co.lt k hf; omega, by omega⟩)).mono fun e w' hq => ?_
  obtain ⟨he, F', h1, h2⟩ := GP.q (x := nums 4 .u32 [o, o2] x) hq h'.ap h'.bl.lt
  exact ⟨he, F', h1, (GG.new g hm).trans h2.out⟩
theorem At.u64s (h : At w c F g x) (hk : Ok lay n x) (hn : n + 16 ≤ 20000000) {o o2 : Nat} (t : TypeId) (ho : lay[o]? = some .u64) (ho2 : lay[o2]? = some .u64) :
    Calls Try.prog 56 #[.pointer (some ⟨c, 0, none⟩), .slice (some ⟨w.heap.size, 0, none⟩) 2 2] (w.alloc (.cells #[.pointer (some ⟨g, o, none⟩), .pointer (some ⟨g, o2, none⟩)] t)) (GQ w c F g (.tuple #[]) (nums 8 .u64 [o, o2] x)) := by
  have hs := hk.size
  have hm : Mods (fun _ => False) w (w.alloc (.cells #[.pointer (some ⟨g, o, none⟩), .pointer (some ⟨g, o2, none⟩)] t)) := Mods.alloc _ _ _
  have h' := h.keep hm
  have hlt := h.bl.lt
  refine (u64_gen c F x.1 g x.2 _ 2 [o, o2] _ h'.co h'.bl h'.ap (by simp; omega) (by simp) (by
    intro o' ho'
    simp only [List.mem_cons, List.not_mem_nil, or_false] at ho'
    rcases ho' with rfl | rfl
    · exact hk.ty _ _ ho
    · exact hk.ty _ _ ho2) (Sl.two w _ _ t) (fun k hk => by
    have hk' : w.heap.size = k := hk.2
    exact ⟨fun hf => by have := h.co.lt k hf; omega, by omega⟩)).mono fun e w' hq => ?_
  obtain ⟨he, F', h1, h2⟩ := GP.q (x := nums 8 .u64 [o, o2] x) hq h'.ap h'.bl.lt
  exact ⟨he, F', h1, (GG.new g hm).trans h2.out⟩
end

set_option maxRecDepth 100000 in
set_option maxHeartbeats 1000000 in
theorem time_gen (c : Nat) (F : Nat → Prop) (g : Nat) (x : X) (lay : List Ty) (n : Nat) (o : Nat) (w : World) (h : At w c F g x) (hk : Ok lay n x) (hn : n + 8 ≤ 20000000) (h0 : lay[o]? = some .u32) (h1 : lay[o + 1]? = some .u32) :
    Calls Try.prog 54 #[.pointer (some ⟨c, 0, none⟩), .pointer (some ⟨g, o, none⟩)] w (GQ w c F g (.tuple #[]) (pTime o x)) := by
  have H := hid h
  have HC := hid ((h.keep (Mods.drew _ w)).u32s hk hn (o := o) (o2 := o + 1) 123 h0 h1)
  clear h hk hn h0 h1
  go_enter Try.func54, Try.ntmps54
  go_wp2_with fail
  go_region_with (refine HC.out.mono ?_; rintro e w1 ⟨rfl, F1, q1, q2⟩)
  all_goals
    go_wp2
    go_end0
    exact ⟨rfl, F1, q1, (GG.new g (Mods.drew _ w)).trans q2.out⟩

end Go.Proofs.Ytanknjpcgceccaa
