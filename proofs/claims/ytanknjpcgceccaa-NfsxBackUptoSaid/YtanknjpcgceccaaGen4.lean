/- nfsx's coder: number, whether it reads or writes. -/
import Derived.Test.YtanknjpcgceccaaGen3
namespace Go.Proofs.Ytanknjpcgceccaa
open Go.RowKit

/-- An int from one number to another. -/
def St.number (lo hi v : Int) : St → Int × St
  | .wr b out => (v, (((St.wr b out).must (decide (lo ≤ v ∧ v ≤ hi))).num 4 (IntKind.u32.wrap v)).2)
  | .rd inp pos err b => let r := (St.rd inp pos err b).num 4 (IntKind.u32.wrap v); (r.1, r.2.must (decide (lo ≤ r.1 ∧ r.1 ≤ hi)))
theorem St.size_number (s : St) (lo hi v : Int) : (s.number lo hi v).2.size ≤ s.size + 4 := by
  cases s with
  | wr b out => exact Nat.le_trans (St.size_num _ _ _) (by rw [St.size_must]; exact Nat.le_refl _)
  | rd inp pos err b => simp only [St.number, St.size_must]; exact St.size_num _ _ _

theorem Blk.new (w : World) (cs : Array Value) (t : TypeId) : Blk (w.alloc (.cells cs t)) w.heap.size (fun j => cs[j]?) := by
  have hob : (w.alloc (.cells cs t)).heap[w.heap.size]? = some (.cells cs t (0, 0)) := heap_alloc_new w _
  exact ⟨by simp, fun j => by rw [cell_of_row _ _ _ _ _ _ hob], fun j => by unfold World.frozen?; rw [hob]; simp⟩
theorem Sl.ptr (w : World) (v : Value) (t : TypeId) : Sl (w.alloc (.cells #[v] t)) 1 (some ⟨w.heap.size, 0, none⟩) 1 1 [v] := Sl.one w v t
theorem wrap_u32_range (v : Int) : 0 ≤ IntKind.u32.wrap v ∧ IntKind.u32.wrap v < ((256 ^ 4 : Nat) : Int) := by
  rw [IntKind.wrap_u32]; omega

/-- The local number 'n', and the call 'c.u32(&n)'. -/
theorem u32_local (c : Nat) (F : Nat → Prop) (s : St) (g : Nat) (A : Cells) (n : Int) (t t2 : TypeId) (w : World) (h : CO w c F s) (hb : Blk w g A) (hg : ¬ F g) (hlen : s.size + 4 ≤ 20000000) (hn : 0 ≤ n ∧ n < ((256 ^ 4 : Nat) : Int)) :
    Calls Try.prog 55 #[.pointer (some ⟨c, 0, none⟩), .slice (some ⟨w.heap.size + 1, 0, none⟩) 1 1] ((w.alloc (.cells #[.int .u32 n] t)).alloc (.cells #[.pointer (some ⟨w.heap.size, 0, none⟩)] t2)) fun e w' =>
      e = .returned (.tuple #[]) ∧ ∃ F', Hid (CO w' c F' (s.num 4 n).2) ∧ Hid (GG w F g w' F') ∧ Hid (Blk w' g A) ∧ w'.cell? ⟨w.heap.size, 0, none⟩ = some (.int .u32 (s.num 4 n).1) := by
  have hm : Mods (fun _ => False) w ((w.alloc (.cells #[.int .u32 n] t)).alloc (.cells #[.pointer (some ⟨w.heap.size, 0, none⟩)] t2)) := (Mods.alloc _ _ _).trans (Mods.alloc _ _ _)
  have hnew : ∀ k, w.heap.size ≤ k → ¬ F k := fun k hk hf => by have := h.lt k hf; omega
  refine (u32_gen c F s w.heap.size (fun j => #[Value.int .u32 n][j]?) _ 1 [0] _ (h.keep hm fun _ _ h => h) ((Blk.new w _ t).keep (Mods.alloc (fun _ => False) _ _) fun h => h) (hnew _ (Nat.le_refl _)) hlen (by simp) (by
    intro o ho
    simp only [List.mem_singleton] at ho
    subst ho
    exact ⟨n, rfl, hn⟩) (by
    have := Sl.ptr (w.alloc (.cells #[.int .u32 n] t)) (.pointer (some ⟨w.heap.size, 0, none⟩)) t2
    simpa using this) (fun k hk => by
    have hk' : w.heap.size + 1 = k := hk.2
    exact ⟨hnew k (by omega), by omega⟩)).mono ?_
  rintro e w' ⟨F', rfl, h1, h2, h3, h4⟩
  have hglt := hb.lt
  have hgg : GG w F g w' F' := GG.other hm (Nat.le_refl _) ⟨h2, h3⟩
  refine ⟨rfl, F', h1, hgg, (hb.keep hm fun h => h).keep h2 (fun hf => hf.elim hg (by omega)), (h4.cell 0).trans rfl⟩

set_option maxRecDepth 100000 in
set_option maxHeartbeats 2000000 in
theorem numberw_gen (c : Nat) (F : Nat → Prop) (bad : Bool) (out : List UInt8) (g : Nat) (A : Cells) (o : Nat) (lo hi v : Int) (w : World) (h : CO w c F (.wr bad out)) (hb : Blk w g A) (hg : ¬ F g) (hlen : out.length + 4 ≤ 20000000) (hv : A o = some (.int .i64 v)) :
    Calls Try.prog 57 #[.pointer (some ⟨c, 0, none⟩), .pointer (some ⟨g, o, none⟩), .int .i64 lo, .int .i64 hi] w (GP w c F g (.tuple #[]) ((St.wr bad out).number lo hi v).2 A) := by
  have HB := hid hb; have HG := hid hg; have HV := hid hv
  have hcell := (hb.cell o).trans hv
  obtain ⟨p, hc1⟩ := h.c1_wr
  have hglt := hb.lt
  have HL := hid hlen
  obtain ⟨b0, hb0⟩ : ∃ b0, b0 = decide (lo ≤ v ∧ v ≤ hi) := ⟨_, rfl⟩
  have HM := hid (must_gen c F (.wr bad out) b0 g A w h hb hg)
  show Calls _ _ _ _ (GP w c F g (.tuple #[]) (((St.wr bad out).must (decide (lo ≤ v ∧ v ≤ hi))).num 4 (IntKind.u32.wrap v)).2 A)
  rw [← hb0]
  clear h hb hg hv
  have hcase : (lo ≤ v ∧ v ≤ hi ∧ b0 = true) ∨ (lo ≤ v ∧ ¬ v ≤ hi ∧ b0 = false) ∨ (¬ lo ≤ v ∧ b0 = false) := by
    by_cases h1 : lo ≤ v <;> by_cases h2 : v ≤ hi <;> simp [h1, h2, hb0]
  clear hb0
  rcases hcase with ⟨h1, h2, rfl⟩ | ⟨h1, h2, rfl⟩ | ⟨h1, rfl⟩
  all_goals
    go_enter Try.func57, Try.ntmps57
    go_wp2_with fail
    refine HM.out.mono ?_
    rintro e w1 ⟨F1, rfl, k1, k2, k3, k4⟩
    have hg1 : GG w F g w1 F1 := ⟨k2, k3⟩
    obtain ⟨p1, hp1⟩ := CO.c1_wr k1
    have hcell1 := (k4.cell o).trans HV.out
    have HU := hid (u32_local c F1 _ g A (IntKind.u32.wrap v) 23 123 w1 k1 k4 (hg1.apart HG.out hglt) HL.out (wrap_u32_range v))
    have HG1 := hid hg1
    clear k1 k2 k3 k4 hg1 hcell hc1 HM
    go_wp2_with fail
    refine HU.out.mono ?_
    rintro e w2 ⟨rfl, F2, q1, q2, q3, _⟩
    obtain ⟨p2, hp2⟩ := CO.c1_wr q1.out
    have HG2 := hid (HG1.out.trans q2.out)
    clear HU hcell1 hp1
    go_wp2
    go_end0
    exact GP.mk q1.out HG2.out q3.out

set_option maxRecDepth 100000 in
set_option maxHeartbeats 2000000 in
theorem numberr_gen (c : Nat) (F : Nat → Prop) (inp : List UInt8) (pos : Nat) (err : Int) (bad : Bool) (g : Nat) (A : Cells) (o : Nat) (lo hi v : Int) (w : World) (h : CO w c F (.rd inp pos err bad)) (hb : Blk w g A) (hg : ¬ F g) (hv : A o = some (.int .i64 v)) :
    Calls Try.prog 57 #[.pointer (some ⟨c, 0, none⟩), .pointer (some ⟨g, o, none⟩), .int .i64 lo, .int .i64 hi] w (GP w c F g (.tuple #[]) ((St.rd inp pos err bad).number lo hi v).2 (upd A o (.int .i64 ((St.rd inp pos err bad).number lo hi v).1))) := by
  have HB := hid hb; have HG := hid hg; have HV := hid hv
  have hcell := (hb.cell o).trans hv
  have hc1 := h.c1_rd
  have hglt := hb.lt
  have hrange := num_range (St.rd inp pos err bad) 4 (IntKind.u32.wrap v) (wrap_u32_range v)
  have HU := u32_local c F (.rd inp pos err bad) g A (IntKind.u32.wrap v) 23 123 w h hb hg (by simp [St.size]) (wrap_u32_range v)
  show Calls _ _ _ _ (GP w c F g (.tuple #[]) (((St.rd inp pos err bad).num 4 (IntKind.u32.wrap v)).2.must (decide (lo ≤ ((St.rd inp pos err bad).num 4 (IntKind.u32.wrap v)).1 ∧ ((St.rd inp pos err bad).num 4 (IntKind.u32.wrap v)).1 ≤ hi))) (upd A o (.int .i64 ((St.rd inp pos err bad).num 4 (IntKind.u32.wrap v)).1)))
  have hst : ∃ pos' err', ((St.rd inp pos err bad).num 4 (IntKind.u32.wrap v)).2 = .rd inp pos' err' bad := ⟨_, _, rfl⟩
  generalize (St.rd inp pos err bad).num 4 (IntKind.u32.wrap v) = q at hrange HU hst ⊢
  obtain ⟨n, s1⟩ := q
  simp only at hrange HU hst ⊢
  obtain ⟨pos1, err1, rfl⟩ := hst
  obtain ⟨b0, hb0⟩ : ∃ b0, b0 = decide (lo ≤ n ∧ n ≤ hi) := ⟨_, rfl⟩
  rw [← hb0]
  have hn0 : 0 ≤ n := hrange.1
  have hn1 : n < 4294967296 := hrange.2
  have hcase : (lo ≤ n ∧ n ≤ hi ∧ b0 = true) ∨ (lo ≤ n ∧ ¬ n ≤ hi ∧ b0 = false) ∨ (¬ lo ≤ n ∧ b0 = false) := by
    by_cases h1 : lo ≤ n <;> by_cases h2 : n ≤ hi <;> simp [h1, h2, hb0]
  have HU' := hid HU
  clear h hb hg hv hb0 HU hrange
  rcases hcase with ⟨h1, h2, rfl⟩ | ⟨h1, h2, rfl⟩ | ⟨h1, rfl⟩
  all_goals
    go_enter Try.func57, Try.ntmps57
    go_wp2_with fail
    refine HU'.out.mono ?_
    rintro e w2 ⟨rfl, F2, q1, q2, q3, hn⟩
    have hp2 := CO.c1_rd q1.out
    have hcell2 := (q3.out.cell o).trans HV.out
    have hfree2 := q3.out.free o
    have hset := q3.out.set HV.out (.int .i64 n)
    have hms : Mods (fun k => k = g) w2 (w2.setCell ⟨g, o, none⟩ (.int .i64 n)) := Mods.setCell (F := fun k => k = g) (a := ⟨g, o, none⟩) rfl _
    have hap := q2.out.apart HG.out hglt
    have hco := q1.out.keep hms fun k hk e => hap (e ▸ hk)
    have hcell3 := (hset.cell o).trans (upd_at _ _ _)
    have HMU := fun is => hid (must_gen c F2 (.rd inp pos1 err1 bad) is g _ _ hco hset hap)
    have HMU' := hid HMU
    have HG2 := hid (q2.out.trans (GG.mine (F := F2) hms))
    clear hcell hc1 HU' q1 q2 q3 hset hms hap hco HMU
    go_wp2_with fail
    refine (HMU'.out _).out.mono ?_
    rintro e w3 ⟨F3, rfl, k1, k2, k3, k4⟩
    have hfin := hid k1
    have hbl := hid k4
    have HG3 := hid (HG2.out.trans ⟨k2, k3⟩)
    clear k1 k2 k3 k4 HMU'
    go_wp2
    go_end0
    first
      | exact GP.mk hfin.out HG3.out hbl.out
      | (have hfin2 := hfin.out
         rw [decide_eq_false (show ¬ n ≤ hi by omega)] at hfin2
         exact GP.mk hfin2 HG3.out hbl.out)

theorem number_gen (c : Nat) (F : Nat → Prop) (s : St) (g : Nat) (A : Cells) (o : Nat) (lo hi v : Int) (w : World) (h : CO w c F s) (hb : Blk w g A) (hg : ¬ F g) (hlen : s.size + 4 ≤ 20000000) (hv : A o = some (.int .i64 v)) :
    Calls Try.prog 57 #[.pointer (some ⟨c, 0, none⟩), .pointer (some ⟨g, o, none⟩), .int .i64 lo, .int .i64 hi] w (GP w c F g (.tuple #[]) (s.number lo hi v).2 (upd A o (.int .i64 (s.number lo hi v).1))) := by
  cases s with
  | wr bad out =>
    have h1 := numberw_gen c F bad out g A o lo hi v w h hb hg hlen hv
    have h2 : upd A o (.int .i64 ((St.wr bad out).number lo hi v).1) = A := upd_self hv
    rw [h2]
    exact h1
  | rd inp pos err bad => exact numberr_gen c F inp pos err bad g A o lo hi v w h hb hg hv

end Go.Proofs.Ytanknjpcgceccaa
