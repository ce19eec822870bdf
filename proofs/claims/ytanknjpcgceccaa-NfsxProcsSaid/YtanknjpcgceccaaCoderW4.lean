/- nfsx's coder, where it writes: text. -/
import Derived.Test.YtanknjpcgceccaaCoderW3
import Derived.Laws.IdiomStrings
namespace Go.Proofs.Ytanknjpcgceccaa
open Go.RowKit

/-- '[]byte(s)': a new block, that reads as the bytes. -/
theorem conv_sb (bs : List UInt8) (w : World) :
    ∃ cap o, (convert 9 22 (.string (str bs))).run Try.prog w = .ok (.slice (some ⟨w.heap.size, 0, none⟩) bs.length cap) (w.drew.alloc o) ∧ SlB (w.drew.alloc o) (some ⟨w.heap.size, 0, none⟩) cap bs := by
  have h := run_bytes_of_string (P := Try.prog) w 9 22 5 (str bs) Try.underlying9 Try.underlying22 Try.underlying5
  have hsz : (str bs).size = bs.length := rfl
  refine ⟨_, _, h, by simp, ?_, by simp, fun j u hu => ⟨w.heap.size, 0, rfl, ?_⟩⟩
  · rw [← hsz]; exact grownCap_ge w _ 0 _
  · have hj : j < bs.length := by
      have := (List.getElem?_eq_some_iff.1 hu).1
      simpa using this
    have h1 := bytesRow_at (str bs) (grownCap w (str bs).size 0 5) j hj
    have h2 : (w.drew.alloc (.cells (bytesRow (str bs) (grownCap w (str bs).size 0 5)) 5 ((bytesRow (str bs) (grownCap w (str bs).size 0 5)).size, (bytesRow (str bs) (grownCap w (str bs).size 0 5)).size + 1))).heap[w.heap.size]? = some (.cells (bytesRow (str bs) (grownCap w (str bs).size 0 5)) 5 ((bytesRow (str bs) (grownCap w (str bs).size 0 5)).size, (bytesRow (str bs) (grownCap w (str bs).size 0 5)).size + 1)) := heap_alloc_new w.drew _
    rw [Nat.zero_add]
    unfold World.cell?
    rw [h2]
    simp only [List.getElem?_map, List.getElem?_eq_getElem hj, Option.map_some, Option.some.injEq] at hu
    subst hu
    simp [B]
    exact h1

/-- What stands there is laid there again: nothing is changed. -/
theorem setCell_there {w : World} {b o : Nat} {v : Value} (h : w.cell? ⟨b, o, none⟩ = some v) (F : Nat → Prop) : Mods F w (w.setCell ⟨b, o, none⟩ v) := by
  refine ⟨rfl, rfl, rfl, by simp [World.setCell], fun k hk _ => ?_⟩
  by_cases hb : b = k
  · subst hb
    unfold World.cell? at h
    cases ho : w.heap[b]? with
    | none => rw [ho] at h; simp at h
    | some ob =>
      rw [ho] at h
      cases ob with
      | cells cs T fr =>
        simp [World.setCell, Array.getElem?_modify, ho]
        simp at h
        apply Array.ext_getElem?
        intro i
        by_cases hi : o = i
        · subst hi
          rw [Array.getElem?_setIfInBounds_self]
          obtain ⟨h3, h4⟩ := Array.getElem?_eq_some_iff.1 h
          simp [h3, h4]
        · rw [Array.getElem?_setIfInBounds_ne hi]
      | _ => simp at h
  · simp [World.setCell, Array.getElem?_modify, hb]

set_option maxRecDepth 100000 in
set_option maxHeartbeats 2000000 in
theorem textw_any (c p : Nat) (ao : Option Addr) (cap : Nat) (bad : Bool) (bs : List UInt8) (b o : Nat) (most : Int) (xs : List UInt8) (w : World) (h : CW w c p ao cap bad bs) (hlen : bs.length + xs.length + 8 ≤ 1000000)
    (hx : w.cell? ⟨b, o, none⟩ = some (.string (str xs)) ∧ w.frozen? ⟨b, o, none⟩ = false ∧ ¬ FC c p ao b) :
    Calls Try.prog 51 #[.pointer (some ⟨c, 0, none⟩), .pointer (some ⟨b, o, none⟩), .int .i64 most] w (CPost w c p ao (.tuple #[]) (bad || !decide ((xs.length : Int) ≤ most)) (bs ++ row xs)) := by
  have H := hid h; have HX := hid hx; have hcell := hx.1
  obtain ⟨cp, ob, heq, hsl⟩ := conv_sb xs w
  have HSL := hid hsl
  clear h hx hsl
  go_enter Try.func51, Try.ntmps51
  go_wp2_with fail
  have hm0 : Mods (fun _ => False) w ((w.alloc ob).alloc (.cells #[.slice (some ⟨w.heap.size, 0, none⟩) xs.length cp] 22)).drew := ((Mods.alloc _ w ob).trans (Mods.alloc _ _ _)).trans (Mods.drew _ _)
  have hsz : ((w.alloc ob).alloc (.cells #[.slice (some ⟨w.heap.size, 0, none⟩) xs.length cp] 22)).drew.heap.size = w.heap.size + 2 := by simp
  have hvar : ((w.alloc ob).alloc (.cells #[.slice (some ⟨w.heap.size, 0, none⟩) xs.length cp] 22)).drew.cell? ⟨w.heap.size + 1, 0, none⟩ = some (.slice (some ⟨w.heap.size, 0, none⟩) xs.length cp) := by simp
  have hs0 : SlB ((w.alloc ob).alloc (.cells #[.slice (some ⟨w.heap.size, 0, none⟩) xs.length cp] 22)).drew (some ⟨w.heap.size, 0, none⟩) cp xs := HSL.out.alloc _
  generalize ((w.alloc ob).alloc (.cells #[.slice (some ⟨w.heap.size, 0, none⟩) xs.length cp] 22)).drew = w0 at hm0 hsz hvar hs0 ⊢
  have hnew : ∀ k, w.heap.size ≤ k → ¬ FC c p ao k := fun k hk hf => by
    rcases hf with e | e | e
    · have := H.out.lt; omega
    · have := H.out.wr.lt; omega
    · have := H.out.wr.own.lt _ e; omega
  refine (roww_any c p ao cap bad bs ⟨w.heap.size + 1, 0, none⟩ most _ _ xs w0 (H.out.new hm0) hlen ⟨hvar, hnew _ (by simp)⟩ hs0 (fun k hk => by
    have hk' : w.heap.size = k := hk.2
    exact ⟨by omega, hnew k (by omega)⟩)).mono ?_
  rintro e w1 ⟨ao1, cap1, rfl, hw1, hg1⟩
  have hvar1 := hg1.mods.cell hvar (hnew _ (by simp))
  have hcv := run_conv (hs0.keep hg1.mods fun k hk => by
    have hk' : w.heap.size = k := hk.2
    exact hnew k (by omega))
  have hg01 : CGrew w c p ao w1 ao1 := ⟨(hm0.mono fun _ _ h => h.elim).trans hg1.mods, fun k hk => by
    rcases hg1.fresh k hk with h | h
    · exact .inl h
    · exact .inr (by omega)⟩
  have hcell1 := hg01.mods.cell hcell HX.out.2.2
  have hlt : b < w.heap.size := World.block_lt_of_cell? w ⟨b, o, none⟩ hcell
  have hfr1 : w1.frozen? ⟨b, o, none⟩ = false := (World.frozen?_of_block (w := w) (hg01.mods.block b hlt HX.out.2.2)).trans HX.out.2.1
  have hfin := hid (hw1.new (setCell_there hcell1 _))
  have hgf := hid (hg01.new (setCell_there hcell1 _))
  clear hg1 hw1 hg01 hnew hs0 hvar hm0 HSL heq hcell
  go_wp2
  go_end0
  exact ⟨ao1, cap1, rfl, hfin.out, hgf.out⟩

end Go.Proofs.Ytanknjpcgceccaa
