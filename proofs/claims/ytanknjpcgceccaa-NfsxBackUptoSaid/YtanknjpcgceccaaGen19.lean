/- nfsx.known. -/
import Derived.Test.YtanknjpcgceccaaGen18
namespace Go.Proofs.Ytanknjpcgceccaa
open Go.RowKit

set_option maxRecDepth 100000 in
set_option maxHeartbeats 2000000 in
theorem index_any (l : List Int) (lo : Option Addr) (lc : Nat) (v : Int) (w : World) (hl : Sl w 1 lo l.length lc (l.map fun u => .int .i64 u)) (hn : l.length ≤ 1000) :
    Calls Try.prog 101 #[.slice lo l.length lc, .int .i64 v] w fun e w' => ∃ n : Int, e = .returned (.int .i64 n) ∧ w' = w ∧ decide (0 ≤ n) = l.contains v := by
  have HL := hid hl; clear hl
  go_enter Try.func101, Try.ntmps101
  go_wp2
  go_loopw [8] (fun i wr => ∃ k : Nat, k ≤ l.length ∧ i = .int .i64 (k : Int) ∧ wr = w ∧ Hid (v ∉ l.take k)) (fun i _ => l.length - (intOf i).toNat)
  case atStart => exact ⟨0, by omega, by go_num, rfl, by show v ∉ _; simp⟩
  case round =>
    obtain ⟨k, hk, rfl, rfl, hnot⟩ := hrel
    by_cases hlt : k < l.length
    · obtain ⟨b, o, rfl, hcell⟩ := HL.out.at (j := k) (by simpa using hlt)
      have hcell' : wr.cell? ⟨b, o + k, none⟩ = some (.int .i64 l[k]) := by simpa using hcell
      clear hcell
      obtain ⟨u, hu⟩ : ∃ u, u = l[k] := ⟨_, rfl⟩
      rw [← hu] at hcell'
      have HU := hid hu
      clear hu
      by_cases he : v = u
      · have he' : (v == u) = true := by simpa using he
        have HE := hid he
        clear he
        go_wp2
        go_ret
        refine ⟨_, rfl, rfl, ?_⟩
        rw [List.contains_iff_mem.2 (by rw [HE.out, HU.out]; exact List.getElem_mem hlt)]
        exact decide_eq_true (by omega)
      · have he' : (v == u) = false := by simpa using he
        have HN : Hid (v ∉ l.take (k + 1)) := by
          show v ∉ _
          rw [List.take_succ_eq_append_getElem hlt, List.mem_append, List.mem_singleton]
          rintro (h | h)
          · exact hnot.out h
          · exact he (h.trans HU.out.symm)
        clear he hnot
        go_wp2
        go_roundw
        case rel => exact ⟨k + 1, by omega, by go_num, by trivial, HN⟩
        case measure => simp [intOf]; omega
    · have HN : Hid (v ∉ l) := by
        have h := hnot.out
        rw [List.take_of_length_le (by omega)] at h
        exact h
      clear hnot
      go_wp2
      go_ret
      refine ⟨_, rfl, by first | rfl | trivial, ?_⟩
      rw [show l.contains v = false by simpa using HN.out]
      rfl

/-- The Statuses that there are. -/
def stats : List Int := [0, 1, 2, 5, 13, 17, 18, 20, 21, 22, 27, 28, 31, 63, 66, 70, 10001, 10002, 10003, 10004, 10005, 10007]
def knownB (v : Int) : Bool := stats.contains v

set_option maxRecDepth 100000 in
set_option maxHeartbeats 2000000 in
theorem contains_any (l : List Int) (lo : Option Addr) (lc : Nat) (v : Int) (w : World) (hl : Sl w 1 lo l.length lc (l.map fun u => .int .i64 u)) (hn : l.length ≤ 1000) :
    Calls Try.prog 85 #[.slice lo l.length lc, .int .i64 v] w fun e w' => e = .returned (.bool (l.contains v)) ∧ w' = w := by
  have D := hid (index_any l lo lc v w hl hn)
  clear hl hn
  obtain ⟨n, hn⟩ : ∃ n, n = l.length := ⟨_, rfl⟩
  rw [← hn] at D ⊢
  clear hn
  go_enter Try.func85, Try.ntmps85
  go_wp2_with fail
  refine D.out.mono ?_
  rintro e w1 ⟨n, rfl, rfl, hd⟩
  have HD := hid hd
  clear hd D
  by_cases h0 : 0 ≤ n
  · go_wp2
    go_ret
    exact ⟨by rw [← HD.out, decide_eq_true h0]; rfl, rfl⟩
  · go_wp2
    go_ret
    exact ⟨by rw [← HD.out, decide_eq_false (by omega)]; rfl, rfl⟩

set_option maxRecDepth 100000 in
set_option maxHeartbeats 2000000 in
theorem known_gen (v : Int) (w : World) : Calls Try.prog 71 #[.int .i64 v] w fun e w' => e = .returned (.bool (knownB v)) ∧ Mods (fun _ => False) w w' := by
  have hm : Mods (fun _ => False) w (w.alloc (.cells (stats.map fun u => Value.int .i64 u).toArray 33)) := Mods.alloc _ _ _
  have hob := heap_alloc_new w (.cells (stats.map fun u => Value.int .i64 u).toArray 33)
  have hsl : Sl (w.alloc (.cells (stats.map fun u => Value.int .i64 u).toArray 33)) 1 (some ⟨w.heap.size, 0, none⟩) stats.length 22 (stats.map fun u => .int .i64 u) := ⟨by simp, by decide, fun h => (by cases h), fun j y hy => ⟨_, _, rfl, by rw [Nat.zero_add, cell_of_row _ _ _ _ _ _ hob]; simpa using hy⟩⟩
  have d := contains_any stats _ 22 v _ hsl (by decide)
  have D : Hid (Calls Try.prog 85 #[.slice (some ⟨w.heap.size, 0, none⟩) 22 22, .int .i64 v] (w.alloc (.cells #[.int .i64 0, .int .i64 1, .int .i64 2, .int .i64 5, .int .i64 13, .int .i64 17, .int .i64 18, .int .i64 20, .int .i64 21, .int .i64 22, .int .i64 27, .int .i64 28, .int .i64 31, .int .i64 63, .int .i64 66, .int .i64 70, .int .i64 10001, .int .i64 10002, .int .i64 10003, .int .i64 10004, .int .i64 10005, .int .i64 10007] 33)) fun e w' => e = .returned (.bool (knownB v)) ∧ w' = w.alloc (.cells #[.int .i64 0, .int .i64 1, .int .i64 2, .int .i64 5, .int .i64 13, .int .i64 17, .int .i64 18, .int .i64 20, .int .i64 21, .int .i64 22, .int .i64 27, .int .i64 28, .int .i64 31, .int .i64 63, .int .i64 66, .int .i64 70, .int .i64 10001, .int .i64 10002, .int .i64 10003, .int .i64 10004, .int .i64 10005, .int .i64 10007] 33)) := d
  have HM : Hid (Mods (fun _ => False) w (w.alloc (.cells #[.int .i64 0, .int .i64 1, .int .i64 2, .int .i64 5, .int .i64 13, .int .i64 17, .int .i64 18, .int .i64 20, .int .i64 21, .int .i64 22, .int .i64 27, .int .i64 28, .int .i64 31, .int .i64 63, .int .i64 66, .int .i64 70, .int .i64 10001, .int .i64 10002, .int .i64 10003, .int .i64 10004, .int .i64 10005, .int .i64 10007] 33))) := hm
  clear hm hob hsl d
  go_enter Try.func71, Try.ntmps71
  go_wp2_with fail
  refine D.out.mono ?_
  rintro e w1 ⟨rfl, rfl⟩
  clear D
  go_wp2
  go_ret
  exact ⟨rfl, HM.out⟩

/-- What a call on a variable of one's own leaves of the struct. -/
theorem GP.local {w w' : World} {c : Nat} {F : Nat → Prop} {g h : Nat} {x : X} {v : Value} {s : St} {A' : Cells} {e : Ending} (ha : At w c F g x) (hg : g ≠ h) (q : GP w c F h v s A' e w') :
    e = .returned v ∧ ∃ F', Hid (At w' c F' g (s, x.2)) ∧ Hid (Mods (fun k => F k ∨ k = h) w w') ∧ Hid (∀ k, F' k → F k ∨ w.heap.size ≤ k) ∧ Hid (Blk w' h A') := by
  obtain ⟨F', he, h1, h2, h3, h4⟩ := q
  refine ⟨he, F', ⟨h1, ha.bl.keep h2 (fun e => e.elim ha.ap hg), fun hf => ?_⟩, h2, h3, h4⟩
  rcases h3 g hf with h5 | h5
  · exact ha.ap h5
  · have := ha.bl.lt; omega

end Go.Proofs.Ytanknjpcgceccaa
