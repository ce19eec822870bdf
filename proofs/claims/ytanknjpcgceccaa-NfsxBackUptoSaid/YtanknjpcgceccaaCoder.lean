/- nfsx's coder, where it writes: must, u32, u64, truth. -/
import Derived.Test.YtanknjpcgceccaaWriter
import Derived.Test.YtanknjpcgceccaaMid
import Derived.OrdersHeld
import Derived.Deep.RegionHeld3
import Derived.Laws.IdiomStrings
namespace Go.Proofs.Ytanknjpcgceccaa
open Go.RowKit

/-- A coder at block c that writes through the writer at block p. -/
structure CW (w : World) (c p : Nat) (ao : Option Addr) (cap : Nat) (bad : Bool) (bs : List UInt8) : Prop where
  obj : w.heap[c]? = some (.cells #[.pointer none, .pointer (some ⟨p, 0, none⟩), .bool bad] 69 (0, 0))
  wr : WR w p ao cap bs
  ne : c ≠ p
  sep : ¬ blk ao c

theorem WR.new2 {w w' : World} {p : Nat} {ao : Option Addr} {cap : Nat} {bs : List UInt8} (h : WR w p ao cap bs) (hm : Mods (fun _ => False) w w') : WR w' p ao cap bs := h.keep hm (fun h => h) fun _ _ h => h

section
variable {w : World} {c p : Nat} {ao : Option Addr} {cap : Nat} {bad : Bool} {bs : List UInt8}
theorem CW.lt (h : CW w c p ao cap bad bs) : c < w.heap.size := lt_of_heap h.obj
theorem CW.c0 (h : CW w c p ao cap bad bs) : w.cell? ⟨c, 0, none⟩ = some (.pointer none) := by simp [World.cell?, h.obj]
theorem CW.c1 (h : CW w c p ao cap bad bs) : w.cell? ⟨c, 1, none⟩ = some (.pointer (some ⟨p, 0, none⟩)) := by simp [World.cell?, h.obj]
theorem CW.c2 (h : CW w c p ao cap bad bs) : w.cell? ⟨c, 2, none⟩ = some (.bool bad) := by simp [World.cell?, h.obj]
theorem CW.f2 (h : CW w c p ao cap bad bs) : w.frozen? ⟨c, 2, none⟩ = false := by simp [World.frozen?, h.obj]
theorem CW.keep {w' : World} (h : CW w c p ao cap bad bs) {F : Nat → Prop} (hm : Mods F w w') (hc : ¬ F c) (hp : ¬ F p) (hF : ∀ k, blk ao k → ¬ F k) : CW w' c p ao cap bad bs :=
  ⟨hm.obj h.obj hc, h.wr.keep hm hp hF, h.ne, h.sep⟩
theorem CW.new {w' : World} (h : CW w c p ao cap bad bs) (hm : Mods (fun _ => False) w w') : CW w' c p ao cap bad bs := h.keep hm (fun h => h) (fun h => h) fun _ _ h => h
theorem CW.set2 (h : CW w c p ao cap bad bs) (b : Bool) : CW (w.setCell ⟨c, 2, none⟩ (.bool b)) c p ao cap b bs := by
  have hm : Mods (fun k => k = c) w (w.setCell ⟨c, 2, none⟩ (.bool b)) := Mods.setCell (F := fun k => k = c) (a := ⟨c, 2, none⟩) rfl _
  refine ⟨?_, h.wr.keep hm (fun e => h.ne e.symm) fun k hk e => h.sep (e ▸ hk), h.ne, h.sep⟩
  simp [World.setCell, Array.getElem?_modify, h.obj]
/-- Behind a writer's call. -/
theorem CW.wrote {w' : World} {ao' : Option Addr} {cap' : Nat} {bs' : List UInt8} (h : CW w c p ao cap bad bs) (hw : WR w' p ao' cap' bs') (hg : WGrew w p ao w' ao') : CW w' c p ao' cap' bad bs' :=
  ⟨hg.mods.obj h.obj fun e => by
    rcases e with e | e
    · exact h.ne e
    · exact h.sep e, hw, h.ne, fun hk => by
    rcases hg.fresh c hk with e | e
    · exact h.sep e
    · have := h.lt; omega⟩
end

/-- What a coder's call may change of what was there: the writer, its bytes, the coder itself. -/
def FC (c p : Nat) (ao : Option Addr) : Nat → Prop := fun k => k = c ∨ k = p ∨ blk ao k
structure CGrew (w : World) (c p : Nat) (ao : Option Addr) (w' : World) (ao' : Option Addr) : Prop where
  mods : Mods (FC c p ao) w w'
  fresh : ∀ k, blk ao' k → blk ao k ∨ w.heap.size ≤ k
theorem CGrew.refl (w : World) (c p : Nat) (ao : Option Addr) : CGrew w c p ao w ao := ⟨Mods.refl _ _, fun _ h => .inl h⟩
theorem WGrew.c {w w' : World} {c p : Nat} {ao ao' : Option Addr} (h : WGrew w p ao w' ao') : CGrew w c p ao w' ao' := ⟨h.mods.mono fun _ _ h => .inr h, h.fresh⟩
theorem CGrew.trans {w w1 w2 : World} {c p : Nat} {a a1 a2 : Option Addr} (h : CGrew w c p a w1 a1) (g : CGrew w1 c p a1 w2 a2) : CGrew w c p a w2 a2 := by
  refine ⟨h.mods.step g.mods fun k hk hb => ?_, fun k hk => ?_⟩
  · rcases hb with rfl | rfl | hb
    · exact .inl rfl
    · exact .inr (.inl rfl)
    · rcases h.fresh k hb with h | h
      · exact .inr (.inr h)
      · omega
  · rcases g.fresh k hk with h1 | h1
    · exact h.fresh k h1
    · exact .inr (Nat.le_trans h.mods.size h1)
theorem CGrew.new {w w1 w2 : World} {c p : Nat} {a a1 : Option Addr} (h : CGrew w c p a w1 a1) (g : Mods (fun _ => False) w1 w2) : CGrew w c p a w2 a1 := ⟨h.mods.step g fun _ _ h => h.elim, h.fresh⟩
/-- A block that is none of the coder's. -/
theorem CGrew.apart {w w' : World} {c p : Nat} {ao ao' : Option Addr} (h : CGrew w c p ao w' ao') {k : Nat} (hk : ¬ FC c p ao k) (hlt : k < w.heap.size) : ¬ FC c p ao' k := fun hf => by
  rcases hf with e | e | e
  · exact hk (.inl e)
  · exact hk (.inr (.inl e))
  · rcases h.fresh k e with e | e
    · exact hk (.inr (.inr e))
    · omega

/-- What a coder's call that writes leaves. -/
def CPost (w : World) (c p : Nat) (ao : Option Addr) (v : Value) (bad : Bool) (bs : List UInt8) (e : Ending) (w' : World) : Prop :=
  ∃ ao' cap', e = .returned v ∧ CW w' c p ao' cap' bad bs ∧ CGrew w c p ao w' ao'

theorem must_any (c p : Nat) (ao : Option Addr) (cap : Nat) (bad is : Bool) (bs : List UInt8) (w : World) (h : CW w c p ao cap bad bs) :
    Calls Try.prog 70 #[.pointer (some ⟨c, 0, none⟩), .bool is] w (CPost w c p ao (.tuple #[]) (bad || !is) bs) := by
  have h2 := h.c2
  have hz := h.f2
  have hfin := hid (h.set2 (bad || !is))
  have hm := hid (Mods.setCell (F := FC c p ao) (w := w) (a := ⟨c, 2, none⟩) (.inl rfl) (.bool (bad || !is)))
  clear h
  cases bad <;> cases is
  all_goals
    go_enter Try.func70, Try.ntmps70
    go_wp2
    go_end0
    exact ⟨ao, cap, rfl, hfin.out, hm.out, fun _ h => .inl h⟩

end Go.Proofs.Ytanknjpcgceccaa

/- nfsx's coder, where it writes: u32, u64. (Printed by wip/tools/gen_coderw.py.) -/
namespace Go.Proofs.Ytanknjpcgceccaa
open Go.RowKit

set_option maxRecDepth 100000 in
set_option maxHeartbeats 2000000 in
theorem u32w_any (c p : Nat) (ao : Option Addr) (cap : Nat) (bad : Bool) (bs : List UInt8) (lo : Option Addr) (lc : Nat) (vs : List (Addr × Int)) (w : World) (h : CW w c p ao cap bad bs) (hlen : bs.length + 4 * vs.length ≤ 20000000)
    (hvs : ∀ x ∈ vs, 0 ≤ x.2 ∧ x.2 < 4294967296) (hl : Sl w 1 lo vs.length lc (vs.map fun x => .pointer (some x.1))) (hd : ∀ k, rb lo vs.length k → ¬ FC c p ao k) (hx : ∀ x ∈ vs, w.cell? x.1 = some (.int .u32 x.2) ∧ ¬ FC c p ao x.1.block) :
    Calls Try.prog 55 #[.pointer (some ⟨c, 0, none⟩), .slice lo vs.length lc] w (CPost w c p ao (.tuple #[]) bad (bs ++ bes 4 (vs.map (·.2)))) := by
  have H := hid h; have HV := hid hvs; have HL := hid hl; have HD := hid hd; have HXX := hid hx; clear h hvs hl hd hx
  go_enter Try.func55, Try.ntmps55
  go_wp2
  go_loopw [8] (fun i wr => ∃ (k : Nat) (ao' : Option Addr) (cap' : Nat), k ≤ vs.length ∧ i = .int .i64 (k : Int) ∧ CW wr c p ao' cap' bad (bs ++ bes 4 ((vs.take k).map (·.2))) ∧ CGrew w c p ao wr ao') (fun i _ => vs.length - (intOf i).toNat)
  case atStart => exact ⟨0, ao, cap, by omega, by go_num, by simpa [bes] using H.out, CGrew.refl _ _ _ _⟩
  case round =>
    obtain ⟨k, ao', cap', hk, rfl, hw, hg⟩ := hrel
    have hw' := hid hw; have hg' := hid hg; clear hw hg
    by_cases hlt : k < vs.length
    · obtain ⟨x, hxe⟩ : ∃ x, x = vs[k] := ⟨_, rfl⟩
      have hmem : x ∈ vs := by rw [hxe]; simp
      have HX := hid (HXX.out x hmem)
      have HV1 := hid (HV.out x hmem)
      have HC : Hid (∃ b o, lo = some ⟨b, o, none⟩ ∧ wr.cell? ⟨b, o + k, none⟩ = some (.pointer (some x.1))) := by
        obtain ⟨b, o, h1, h2⟩ := (HL.out.keep hg'.out.mods HD.out).at (j := k) (by simpa using hlt)
        exact ⟨b, o, h1, by rw [h2, hxe]; simp⟩
      have HS : Hid (bs ++ bes 4 ((vs.take (k + 1)).map (·.2)) = bs ++ bes 4 ((vs.take k).map (·.2)) ++ bes 4 [x.2]) := by
        rw [List.take_succ_eq_append_getElem hlt, ← hxe, List.map_append]; simp [bes, Hid]
      have htl : ((vs.take k).map (·.2)).length = k := by simp; omega
      obtain ⟨b, o, rfl, hcell0⟩ := HC.out
      obtain ⟨a, v⟩ := x
      have hcell : wr.cell? a = some (.int .u32 v) := hg'.out.mods.cell HX.out.1 HX.out.2
      have hc1 := hw'.out.c1
      clear HL HV HC HD HXX hxe hmem
      go_wp2_with fail
      refine wp_region_held_drew (S := fun w' => w'.cell? ⟨c, 1, none⟩ = some (.pointer (some ⟨p, 0, none⟩)) ∧ w'.cell? a = some (.int .u32 v)) (by kernel_rfl) ?hS (fun hHeld => ?_)
      case hS => exact ⟨by simpa using hc1, by simpa using hcell⟩
      refine wpAnyH_take (i := 0) (v := ?_) rfl (by kernel_rfl) (by kernel_rfl) (by kernel_rfl) (fun _ _ _ h => h) (Or.inl ⟨by rfl, ?hy⟩) hHeld ?_
      case hy => intro w hSw; (try dsimp only at hSw); go_simp; try with_reducible rfl
      simp only [Act.put]
      refine wpAnyH_take (i := 1) (v := ?_) rfl (by kernel_rfl) (by kernel_rfl) (by kernel_rfl) (fun _ _ _ h => h) (Or.inl ⟨by rfl, ?hy⟩) hHeld ?_
      case hy => intro w hSw; (try dsimp only at hSw); go_simp; try with_reducible rfl
      simp only [Act.put]
      refine wpAnyH_take (i := 2) (v := ?_) rfl (by kernel_rfl) (by kernel_rfl) (by kernel_rfl) (fun _ _ _ h => h) (Or.inl ⟨by rfl, ?hy⟩) hHeld ?_
      case hy => intro w hSw; (try dsimp only at hSw); go_simp; try with_reducible rfl
      simp only [Act.put]
      refine wpAnyH_take (i := 3) (v := ?_) rfl (by kernel_rfl) (by kernel_rfl) (by kernel_rfl) (fun _ _ _ h => h) (Or.inl ⟨by rfl, ?hy⟩) hHeld ?_
      case hy => intro w hSw; (try dsimp only at hSw); go_simp; try with_reducible rfl
      simp only [Act.put]
      refine wpAnyH_take (i := 4) (v := ?_) rfl (by kernel_rfl) (by kernel_rfl) (by kernel_rfl) (fun _ _ _ h => h) (Or.inl ⟨by rfl, ?hy⟩) hHeld ?_
      case hy => intro w hSw; (try dsimp only at hSw); go_simp; try with_reducible rfl
      simp only [Act.put]
      refine wpAnyH_take (i := 5) (v := ?_) rfl (by kernel_rfl) (by kernel_rfl) (by kernel_rfl) (fun _ _ _ h => h) (Or.inl ⟨by rfl, ?hy⟩) hHeld ?_
      case hy => intro w hSw; (try dsimp only at hSw); go_simp; try with_reducible rfl
      simp only [Act.put]
      refine wpAnyH_take (i := 6) (v := ?_) rfl (by kernel_rfl) (by kernel_rfl) (by kernel_rfl) (fun _ _ _ h => h) (Or.inl ⟨by rfl, ?hy⟩) hHeld ?_
      case hy => intro w hSw; (try dsimp only at hSw); go_simp; try with_reducible rfl
      simp only [Act.put]
      refine wpAnyH_ready (rs := [7]) (by kernel_rfl) (by simp) ?_
      refine AllReadyH.cons rfl (fun K hK => ?_) AllReadyH.nil
      go_simp
      refine hK.out _ _ ?hS (fun hHeld2 => ?_)
      case hS => exact ⟨((Mods.alloc (fun _ => False) wr _).trans (Mods.drew _ _)).cell hc1 (fun h => h), ((Mods.alloc (fun _ => False) wr _).trans (Mods.drew _ _)).cell hcell (fun h => h)⟩
      clear hK K hHeld
      have hHeld := hHeld2
      clear hHeld2
      refine wpAnyH_ready (rs := [8]) (by kernel_rfl) (by simp) ?_
      refine AllReadyH.cons rfl (fun K hK => ?_) AllReadyH.nil
      go_simp
      refine (U32_any p ao' cap' (bs ++ bes 4 ((vs.take k).map (·.2))) _ _ [v] _ (hw'.out.wr.new2 ((Mods.drew (fun _ => False) wr).trans (Mods.alloc (fun _ => False) _ _))) (by simp [bes_length]; omega) (by simpa using HV1.out) (Sl.one _ _ _) (fun q hq => ?hap)).mono ?_
      case hap =>
        have hq' : wr.heap.size = q := by simpa [blk] using hq.2
        subst hq'
        exact ⟨by have := hw'.out.wr.lt; omega, fun h' => by have := hw'.out.wr.own.lt _ h'; omega⟩
      rintro e w2 ⟨ao2, cap2, rfl, hw2, hg2⟩
      have hg02 : WGrew wr p ao' w2 ao2 := ⟨((Mods.drew _ wr).trans (Mods.alloc _ _ _)).trans hg2.mods, fun k hk => by
        rcases hg2.fresh k hk with h | h
        · exact .inl h
        · simp at h; exact .inr (by omega)⟩
      have hcw2 := hid (hw'.out.wrote hw2 hg02)
      have hgg := hid (hg'.out.trans hg02.c)
      clear hw2 hg2 hg02
      go_simp
      refine hK.out _ _ ?hS (fun hHeld2 => ?_)
      case hS => exact ⟨hcw2.out.c1, hgg.out.mods.cell HX.out.1 HX.out.2⟩
      clear hK K hHeld
      have hHeld := hHeld2
      clear hHeld2
      refine wpAnyH_done (by kernel_rfl) ?_ _
      clear hHeld
      have hcw3 : Hid (CW w2 c p ao2 cap2 bad (bs ++ bes 4 ((vs.take (k + 1)).map (·.2)))) := by rw [HS.out]; exact hcw2.out
      clear hc1 hcell hcell0
      go_wp2
      go_roundw
      case rel => exact ⟨k + 1, ao2, cap2, by omega, by go_num, hcw3.out, hgg.out⟩
      case measure => simp [intOf]; omega
    · have hfin : Hid (CW wr c p ao' cap' bad (bs ++ bes 4 (vs.map (·.2)))) := by
        have h1 := hw'.out
        rwa [List.take_of_length_le (by omega)] at h1
      go_wp2
      go_end0
      exact ⟨ao', cap', rfl, hfin.out, hg'.out⟩

set_option maxRecDepth 100000 in
set_option maxHeartbeats 2000000 in
theorem u64w_any (c p : Nat) (ao : Option Addr) (cap : Nat) (bad : Bool) (bs : List UInt8) (lo : Option Addr) (lc : Nat) (vs : List (Addr × Int)) (w : World) (h : CW w c p ao cap bad bs) (hlen : bs.length + 8 * vs.length ≤ 20000000)
    (hvs : ∀ x ∈ vs, 0 ≤ x.2 ∧ x.2 < 18446744073709551616) (hl : Sl w 1 lo vs.length lc (vs.map fun x => .pointer (some x.1))) (hd : ∀ k, rb lo vs.length k → ¬ FC c p ao k) (hx : ∀ x ∈ vs, w.cell? x.1 = some (.int .u64 x.2) ∧ ¬ FC c p ao x.1.block) :
    Calls Try.prog 56 #[.pointer (some ⟨c, 0, none⟩), .slice lo vs.length lc] w (CPost w c p ao (.tuple #[]) bad (bs ++ bes 8 (vs.map (·.2)))) := by
  have H := hid h; have HV := hid hvs; have HL := hid hl; have HD := hid hd; have HXX := hid hx; clear h hvs hl hd hx
  go_enter Try.func56, Try.ntmps56
  go_wp2
  go_loopw [8] (fun i wr => ∃ (k : Nat) (ao' : Option Addr) (cap' : Nat), k ≤ vs.length ∧ i = .int .i64 (k : Int) ∧ CW wr c p ao' cap' bad (bs ++ bes 8 ((vs.take k).map (·.2))) ∧ CGrew w c p ao wr ao') (fun i _ => vs.length - (intOf i).toNat)
  case atStart => exact ⟨0, ao, cap, by omega, by go_num, by simpa [bes] using H.out, CGrew.refl _ _ _ _⟩
  case round =>
    obtain ⟨k, ao', cap', hk, rfl, hw, hg⟩ := hrel
    have hw' := hid hw; have hg' := hid hg; clear hw hg
    by_cases hlt : k < vs.length
    · obtain ⟨x, hxe⟩ : ∃ x, x = vs[k] := ⟨_, rfl⟩
      have hmem : x ∈ vs := by rw [hxe]; simp
      have HX := hid (HXX.out x hmem)
      have HV1 := hid (HV.out x hmem)
      have HC : Hid (∃ b o, lo = some ⟨b, o, none⟩ ∧ wr.cell? ⟨b, o + k, none⟩ = some (.pointer (some x.1))) := by
        obtain ⟨b, o, h1, h2⟩ := (HL.out.keep hg'.out.mods HD.out).at (j := k) (by simpa using hlt)
        exact ⟨b, o, h1, by rw [h2, hxe]; simp⟩
      have HS : Hid (bs ++ bes 8 ((vs.take (k + 1)).map (·.2)) = bs ++ bes 8 ((vs.take k).map (·.2)) ++ bes 8 [x.2]) := by
        rw [List.take_succ_eq_append_getElem hlt, ← hxe, List.map_append]; simp [bes, Hid]
      have htl : ((vs.take k).map (·.2)).length = k := by simp; omega
      obtain ⟨b, o, rfl, hcell0⟩ := HC.out
      obtain ⟨a, v⟩ := x
      have hcell : wr.cell? a = some (.int .u64 v) := hg'.out.mods.cell HX.out.1 HX.out.2
      have hc1 := hw'.out.c1
      clear HL HV HC HD HXX hxe hmem
      go_wp2_with fail
      refine wp_region_held_drew (S := fun w' => w'.cell? ⟨c, 1, none⟩ = some (.pointer (some ⟨p, 0, none⟩)) ∧ w'.cell? a = some (.int .u64 v)) (by kernel_rfl) ?hS (fun hHeld => ?_)
      case hS => exact ⟨by simpa using hc1, by simpa using hcell⟩
      refine wpAnyH_take (i := 0) (v := ?_) rfl (by kernel_rfl) (by kernel_rfl) (by kernel_rfl) (fun _ _ _ h => h) (Or.inl ⟨by rfl, ?hy⟩) hHeld ?_
      case hy => intro w hSw; (try dsimp only at hSw); go_simp; try with_reducible rfl
      simp only [Act.put]
      refine wpAnyH_take (i := 1) (v := ?_) rfl (by kernel_rfl) (by kernel_rfl) (by kernel_rfl) (fun _ _ _ h => h) (Or.inl ⟨by rfl, ?hy⟩) hHeld ?_
      case hy => intro w hSw; (try dsimp only at hSw); go_simp; try with_reducible rfl
      simp only [Act.put]
      refine wpAnyH_take (i := 2) (v := ?_) rfl (by kernel_rfl) (by kernel_rfl) (by kernel_rfl) (fun _ _ _ h => h) (Or.inl ⟨by rfl, ?hy⟩) hHeld ?_
      case hy => intro w hSw; (try dsimp only at hSw); go_simp; try with_reducible rfl
      simp only [Act.put]
      refine wpAnyH_take (i := 3) (v := ?_) rfl (by kernel_rfl) (by kernel_rfl) (by kernel_rfl) (fun _ _ _ h => h) (Or.inl ⟨by rfl, ?hy⟩) hHeld ?_
      case hy => intro w hSw; (try dsimp only at hSw); go_simp; try with_reducible rfl
      simp only [Act.put]
      refine wpAnyH_take (i := 4) (v := ?_) rfl (by kernel_rfl) (by kernel_rfl) (by kernel_rfl) (fun _ _ _ h => h) (Or.inl ⟨by rfl, ?hy⟩) hHeld ?_
      case hy => intro w hSw; (try dsimp only at hSw); go_simp; try with_reducible rfl
      simp only [Act.put]
      refine wpAnyH_take (i := 5) (v := ?_) rfl (by kernel_rfl) (by kernel_rfl) (by kernel_rfl) (fun _ _ _ h => h) (Or.inl ⟨by rfl, ?hy⟩) hHeld ?_
      case hy => intro w hSw; (try dsimp only at hSw); go_simp; try with_reducible rfl
      simp only [Act.put]
      refine wpAnyH_take (i := 6) (v := ?_) rfl (by kernel_rfl) (by kernel_rfl) (by kernel_rfl) (fun _ _ _ h => h) (Or.inl ⟨by rfl, ?hy⟩) hHeld ?_
      case hy => intro w hSw; (try dsimp only at hSw); go_simp; try with_reducible rfl
      simp only [Act.put]
      refine wpAnyH_ready (rs := [7]) (by kernel_rfl) (by simp) ?_
      refine AllReadyH.cons rfl (fun K hK => ?_) AllReadyH.nil
      go_simp
      refine hK.out _ _ ?hS (fun hHeld2 => ?_)
      case hS => exact ⟨((Mods.alloc (fun _ => False) wr _).trans (Mods.drew _ _)).cell hc1 (fun h => h), ((Mods.alloc (fun _ => False) wr _).trans (Mods.drew _ _)).cell hcell (fun h => h)⟩
      clear hK K hHeld
      have hHeld := hHeld2
      clear hHeld2
      refine wpAnyH_ready (rs := [8]) (by kernel_rfl) (by simp) ?_
      refine AllReadyH.cons rfl (fun K hK => ?_) AllReadyH.nil
      go_simp
      refine (U64_any p ao' cap' (bs ++ bes 8 ((vs.take k).map (·.2))) _ _ [v] _ (hw'.out.wr.new2 ((Mods.drew (fun _ => False) wr).trans (Mods.alloc (fun _ => False) _ _))) (by simp [bes_length]; omega) (by simpa using HV1.out) (Sl.one _ _ _) (by simp)).mono ?_
      rintro e w2 ⟨ao2, cap2, rfl, hw2, hg2⟩
      have hg02 : WGrew wr p ao' w2 ao2 := ⟨((Mods.drew _ wr).trans (Mods.alloc _ _ _)).trans hg2.mods, fun k hk => by
        rcases hg2.fresh k hk with h | h
        · exact .inl h
        · simp at h; exact .inr (by omega)⟩
      have hcw2 := hid (hw'.out.wrote hw2 hg02)
      have hgg := hid (hg'.out.trans hg02.c)
      clear hw2 hg2 hg02
      go_simp
      refine hK.out _ _ ?hS (fun hHeld2 => ?_)
      case hS => exact ⟨hcw2.out.c1, hgg.out.mods.cell HX.out.1 HX.out.2⟩
      clear hK K hHeld
      have hHeld := hHeld2
      clear hHeld2
      refine wpAnyH_done (by kernel_rfl) ?_ _
      clear hHeld
      have hcw3 : Hid (CW w2 c p ao2 cap2 bad (bs ++ bes 8 ((vs.take (k + 1)).map (·.2)))) := by rw [HS.out]; exact hcw2.out
      clear hc1 hcell hcell0
      go_wp2
      go_roundw
      case rel => exact ⟨k + 1, ao2, cap2, by omega, by go_num, hcw3.out, hgg.out⟩
      case measure => simp [intOf]; omega
    · have hfin : Hid (CW wr c p ao' cap' bad (bs ++ bes 8 (vs.map (·.2)))) := by
        have h1 := hw'.out
        rwa [List.take_of_length_le (by omega)] at h1
      go_wp2
      go_end0
      exact ⟨ao', cap', rfl, hfin.out, hg'.out⟩

end Go.Proofs.Ytanknjpcgceccaa

/- nfsx's coder, where it writes: truth, row. (Printed by wip/tools/gen_coderw3.py.) -/
namespace Go.Proofs.Ytanknjpcgceccaa
open Go.RowKit

set_option maxRecDepth 100000 in
set_option maxHeartbeats 2000000 in
theorem truthw_any (c p : Nat) (ao : Option Addr) (cap : Nat) (bad : Bool) (bs : List UInt8) (a : Addr) (v : Bool) (w1 : World) (h : CW w1 c p ao cap bad bs) (hlen : bs.length + 4 ≤ 20000000) (hx : w1.cell? a = some (.bool v) ∧ ¬ FC c p ao a.block) :
    Calls Try.prog 53 #[.pointer (some ⟨c, 0, none⟩), .pointer (some a)] w1 (CPost w1 c p ao (.bool v) bad (bs ++ be 4 (boolNum v))) := by
  have H1 := hid h; have HX := hid hx; have hcell := hx.1; have hc1 := h.c1; have hg1 := hid (CGrew.refl w1 c p ao); clear h hx
  go_enter Try.func53, Try.ntmps53
  go_wp2_with fail
  refine wp_region_held_drew (S := fun w' => w'.cell? ⟨c, 1, none⟩ = some (.pointer (some ⟨p, 0, none⟩)) ∧ w'.cell? a = some (.bool v)) (by kernel_rfl) ?hS (fun hHeld => ?_)
  case hS => exact ⟨by simpa using hc1, by simpa using hcell⟩
  refine wpAnyH_take (i := 0) (v := ?_) rfl (by kernel_rfl) (by kernel_rfl) (by kernel_rfl) (fun _ _ _ h => h) (Or.inl ⟨by rfl, ?hy⟩) hHeld ?_
  case hy => intro w hSw; (try dsimp only at hSw); go_simp; try with_reducible rfl
  simp only [Act.put]
  refine wpAnyH_take (i := 1) (v := ?_) rfl (by kernel_rfl) (by kernel_rfl) (by kernel_rfl) (fun _ _ _ h => h) (Or.inl ⟨by rfl, ?hy⟩) hHeld ?_
  case hy => intro w hSw; (try dsimp only at hSw); go_simp; try with_reducible rfl
  simp only [Act.put]
  refine wpAnyH_take (i := 2) (v := ?_) rfl (by kernel_rfl) (by kernel_rfl) (by kernel_rfl) (fun _ _ _ h => h) (Or.inl ⟨by rfl, ?hy⟩) hHeld ?_
  case hy => intro w hSw; (try dsimp only at hSw); go_simp; try with_reducible rfl
  simp only [Act.put]
  refine wpAnyH_take (i := 3) (v := ?_) rfl (by kernel_rfl) (by kernel_rfl) (by kernel_rfl) (fun _ _ _ h => h) (Or.inl ⟨by rfl, ?hy⟩) hHeld ?_
  case hy => intro w hSw; (try dsimp only at hSw); go_simp; try with_reducible rfl
  simp only [Act.put]
  refine wpAnyH_take (i := 4) (v := ?_) rfl (by kernel_rfl) (by kernel_rfl) (by kernel_rfl) (fun _ _ _ h => h) (Or.inl ⟨by rfl, ?hy⟩) hHeld ?_
  case hy => intro w hSw; (try dsimp only at hSw); go_simp; try with_reducible rfl
  simp only [Act.put]
  refine wpAnyH_take (i := 5) (v := ?_) rfl (by kernel_rfl) (by kernel_rfl) (by kernel_rfl) (fun _ _ _ h => h) (Or.inl ⟨by rfl, ?hy⟩) hHeld ?_
  case hy => intro w hSw; (try dsimp only at hSw); go_simp; try with_reducible rfl
  simp only [Act.put]
  refine wpAnyH_take (i := 6) (v := ?_) rfl (by kernel_rfl) (by kernel_rfl) (by kernel_rfl) (fun _ _ _ h => h) (Or.inl ⟨by rfl, ?hy⟩) hHeld ?_
  case hy => intro w hSw; (try dsimp only at hSw); go_simp; try with_reducible rfl
  simp only [Act.put]
  refine wpAnyH_ready (rs := [7]) (by kernel_rfl) (by simp) ?_
  refine AllReadyH.cons rfl (fun K hK => ?_) AllReadyH.nil
  go_simp
  refine hK.out _ _ ?hS (fun hHeld2 => ?_)
  case hS => exact ⟨((Mods.alloc (fun _ => False) w1 _).trans (Mods.drew _ _)).cell hc1 (fun h => h), ((Mods.alloc (fun _ => False) w1 _).trans (Mods.drew _ _)).cell hcell (fun h => h)⟩
  clear hK K hHeld
  have hHeld := hHeld2
  clear hHeld2
  refine wpAnyH_ready (rs := [8]) (by kernel_rfl) (by simp) ?_
  refine AllReadyH.cons rfl (fun K hK => ?_) AllReadyH.nil
  go_simp
  refine (Bool_any p ao cap bs _ _ [v] _ (H1.out.wr.new2 ((Mods.drew (fun _ => False) w1).trans (Mods.alloc (fun _ => False) _ _))) (by simp; omega) (Sl.one _ _ _) (fun q hq => ?hap)).mono ?_
  case hap =>
    have hq' : w1.heap.size = q := by simpa [blk] using hq.2
    subst hq'
    exact ⟨by have := H1.out.wr.lt; omega, fun h' => by have := H1.out.wr.own.lt _ h'; omega⟩
  rintro e w2 ⟨ao2, cap2, rfl, hw2, hg2⟩
  have hg02 : WGrew w1 p ao w2 ao2 := ⟨((Mods.drew _ w1).trans (Mods.alloc _ _ _)).trans hg2.mods, fun k hk => by
    rcases hg2.fresh k hk with h | h
    · exact .inl h
    · simp at h; exact .inr (by omega)⟩
  have hcw2 := hid (H1.out.wrote hw2 hg02)
  have hgg := hid (CGrew.trans hg1.out (hg02.c (c := c)))
  clear hw2 hg2 hg02
  go_simp
  refine hK.out _ _ ?hS (fun hHeld2 => ?_)
  case hS => exact ⟨hcw2.out.c1, hgg.out.mods.cell HX.out.1 HX.out.2⟩
  clear hK K hHeld
  have hHeld := hHeld2
  clear hHeld2
  refine wpAnyH_done (by kernel_rfl) ?_ _
  clear hHeld
  have hcell2 := hgg.out.mods.cell HX.out.1 HX.out.2
  have hfin : Hid (CW w2 c p ao2 cap2 bad (bs ++ be 4 (boolNum v))) := hid (by have h1 := hcw2.out; simpa [bes] using h1)
  clear hc1 hcell
  go_wp2
  go_ret
  exact ⟨ao2, cap2, rfl, hfin.out, hgg.out⟩

set_option maxRecDepth 100000 in
set_option maxHeartbeats 2000000 in
theorem roww_any (c p : Nat) (ao : Option Addr) (cap : Nat) (bad : Bool) (bs : List UInt8) (a : Addr) (most : Int) (xo : Option Addr) (xc : Nat) (xs : List UInt8) (w : World) (h : CW w c p ao cap bad bs) (hlen : bs.length + xs.length + 8 ≤ 20000000) (hx : w.cell? a = some (.slice xo xs.length xc) ∧ ¬ FC c p ao a.block)
    (hs : SlB w xo xc xs) (hxb : ∀ k, rb xo xs.length k → k < w.heap.size ∧ ¬ FC c p ao k) :
    Calls Try.prog 58 #[.pointer (some ⟨c, 0, none⟩), .pointer (some a), .int .i64 most] w (CPost w c p ao (.tuple #[]) (bad || !decide ((xs.length : Int) ≤ most)) (bs ++ row xs)) := by
  have H := hid h; have HX := hid hx; have HS0 := hid hs; have HXB0 := hid hxb
  have hcell := hx.1; have hc1 := h.c1; clear h hx hs hxb
  go_enter Try.func58, Try.ntmps58
  go_wp2_with fail
  refine (must_any c p ao cap bad _ bs w H.out).mono ?_
  rintro e w1 ⟨ao1, cap1, rfl, hw1, hg1'⟩
  have H1 := hid hw1
  have hg1 := hid hg1'
  have HSL := hid (HS0.out.keep hg1'.mods (fun k hk => (HXB0.out k hk).2))
  have HXB : Hid (∀ k, rb xo xs.length k → k < w1.heap.size ∧ ¬ FC c p ao1 k) := fun k hk => ⟨Nat.lt_of_lt_of_le (HXB0.out k hk).1 hg1'.mods.size, hg1'.apart (HXB0.out k hk).2 (HXB0.out k hk).1⟩
  have hcell := hg1'.mods.cell HX.out.1 HX.out.2
  have hc1 := hw1.c1
  clear hw1 hg1' HS0 HXB0
  go_wp2_with fail
  refine wp_region_held_drew (S := fun w' => w'.cell? ⟨c, 1, none⟩ = some (.pointer (some ⟨p, 0, none⟩)) ∧ w'.cell? a = some (.slice xo xs.length xc)) (by kernel_rfl) ?hS (fun hHeld => ?_)
  case hS => exact ⟨by simpa using hc1, by simpa using hcell⟩
  refine wpAnyH_take (i := 0) (v := ?_) rfl (by kernel_rfl) (by kernel_rfl) (by kernel_rfl) (fun _ _ _ h => h) (Or.inl ⟨by rfl, ?hy⟩) hHeld ?_
  case hy => intro w hSw; (try dsimp only at hSw); go_simp; try with_reducible rfl
  simp only [Act.put]
  refine wpAnyH_take (i := 1) (v := ?_) rfl (by kernel_rfl) (by kernel_rfl) (by kernel_rfl) (fun _ _ _ h => h) (Or.inl ⟨by rfl, ?hy⟩) hHeld ?_
  case hy => intro w hSw; (try dsimp only at hSw); go_simp; try with_reducible rfl
  simp only [Act.put]
  refine wpAnyH_take (i := 2) (v := ?_) rfl (by kernel_rfl) (by kernel_rfl) (by kernel_rfl) (fun _ _ _ h => h) (Or.inl ⟨by rfl, ?hy⟩) hHeld ?_
  case hy => intro w hSw; (try dsimp only at hSw); go_simp; try with_reducible rfl
  simp only [Act.put]
  refine wpAnyH_take (i := 3) (v := ?_) rfl (by kernel_rfl) (by kernel_rfl) (by kernel_rfl) (fun _ _ _ h => h) (Or.inl ⟨by rfl, ?hy⟩) hHeld ?_
  case hy => intro w hSw; (try dsimp only at hSw); go_simp; try with_reducible rfl
  simp only [Act.put]
  refine wpAnyH_take (i := 4) (v := ?_) rfl (by kernel_rfl) (by kernel_rfl) (by kernel_rfl) (fun _ _ _ h => h) (Or.inl ⟨by rfl, ?hy⟩) hHeld ?_
  case hy => intro w hSw; (try dsimp only at hSw); go_simp; try with_reducible rfl
  simp only [Act.put]
  refine wpAnyH_take (i := 5) (v := ?_) rfl (by kernel_rfl) (by kernel_rfl) (by kernel_rfl) (fun _ _ _ h => h) (Or.inl ⟨by rfl, ?hy⟩) hHeld ?_
  case hy => intro w hSw; (try dsimp only at hSw); go_simp; try with_reducible rfl
  simp only [Act.put]
  refine wpAnyH_take (i := 6) (v := ?_) rfl (by kernel_rfl) (by kernel_rfl) (by kernel_rfl) (fun _ _ _ h => h) (Or.inl ⟨by rfl, ?hy⟩) hHeld ?_
  case hy => intro w hSw; (try dsimp only at hSw); go_simp; try with_reducible rfl
  simp only [Act.put]
  refine wpAnyH_ready (rs := [7]) (by kernel_rfl) (by simp) ?_
  refine AllReadyH.cons rfl (fun K hK => ?_) AllReadyH.nil
  go_simp
  refine hK.out _ _ ?hS (fun hHeld2 => ?_)
  case hS => exact ⟨((Mods.alloc (fun _ => False) w1 _).trans (Mods.drew _ _)).cell hc1 (fun h => h), ((Mods.alloc (fun _ => False) w1 _).trans (Mods.drew _ _)).cell hcell (fun h => h)⟩
  clear hK K hHeld
  have hHeld := hHeld2
  clear hHeld2
  refine wpAnyH_ready (rs := [8]) (by kernel_rfl) (by simp) ?_
  refine AllReadyH.cons rfl (fun K hK => ?_) AllReadyH.nil
  go_simp
  refine (Bytes_any p ao1 cap1 bs _ _ [(xo, xc, xs)] _ (H1.out.wr.new2 ((Mods.drew (fun _ => False) w1).trans (Mods.alloc (fun _ => False) _ _))) xs.length (by simp) (by simp; omega) (Sl.one _ _ _) (fun q hq => ?hap) (by
    intro s hs
    simp only [List.mem_singleton] at hs
    subst hs
    exact ⟨HSL.out.keep ((Mods.drew (fun _ => False) w1).trans (Mods.alloc (fun _ => False) _ _)) (fun _ _ h => h), fun k hk => ⟨by have := (HXB.out k hk).1; simp; omega, fun e => (HXB.out k hk).2 (.inr (.inl e)), fun e => (HXB.out k hk).2 (.inr (.inr e))⟩⟩)).mono ?_
  case hap =>
    have hq' : w1.heap.size = q := by simpa [blk] using hq.2
    subst hq'
    exact ⟨by have := H1.out.wr.lt; omega, fun h' => by have := H1.out.wr.own.lt _ h'; omega⟩
  rintro e w2 ⟨ao2, cap2, rfl, hw2, hg2⟩
  have hg02 : WGrew w1 p ao1 w2 ao2 := ⟨((Mods.drew _ w1).trans (Mods.alloc _ _ _)).trans hg2.mods, fun k hk => by
    rcases hg2.fresh k hk with h | h
    · exact .inl h
    · simp at h; exact .inr (by omega)⟩
  have hcw2 := hid (H1.out.wrote hw2 hg02)
  have hgg := hid (CGrew.trans hg1.out (hg02.c (c := c)))
  clear hw2 hg2 hg02
  go_simp
  refine hK.out _ _ ?hS (fun hHeld2 => ?_)
  case hS => exact ⟨hcw2.out.c1, hgg.out.mods.cell HX.out.1 HX.out.2⟩
  clear hK K hHeld
  have hHeld := hHeld2
  clear hHeld2
  refine wpAnyH_done (by kernel_rfl) ?_ _
  clear hHeld
  have hfin : Hid (CW w2 c p ao2 cap2 (bad || !decide ((xs.length : Int) ≤ most)) (bs ++ row xs)) := hid (by have h1 := hcw2.out; simpa using h1)
  clear hc1 hcell
  go_wp2
  go_end0
  exact ⟨ao2, cap2, rfl, hfin.out, hgg.out⟩

end Go.Proofs.Ytanknjpcgceccaa

/- nfsx's coder, where it writes: text. -/
namespace Go.Proofs.Ytanknjpcgceccaa
open Go.RowKit

/-- '[]byte(s)': a new block, that reads as the bytes. -/
theorem conv_sb (bs : List UInt8) (w : World) :
    ∃ cap o, (convert 9 22 (.string (str bs))).run Try.prog w = .ok (.slice (some ⟨w.heap.size, 0, none⟩) bs.length cap) (w.drew.alloc o) ∧ SlB (w.drew.alloc o) (some ⟨w.heap.size, 0, none⟩) cap bs := by
  have h := run_bytes_of_string (P := Try.prog) w 9 22 5 (str bs) Try.underlying9 Try.underlying22 Try.underlying5
  have hsz : (str bs).size = bs.length := rfl
  refine ⟨_, _, h, by simp, ?_, by simp, fun j u hu => ⟨w.heap.size, 0, rfl, ?_⟩⟩
  · rw [← hsz]; exact grownCap_ge w _ 0 _
  · have hj : j < bs.length := by
      have := (List.getElem?_eq_some_iff.1 hu).1
      simpa using this
    have h1 := bytesRow_at (str bs) (grownCap w (str bs).size 0 5) j hj
    have h2 : (w.drew.alloc (.cells (bytesRow (str bs) (grownCap w (str bs).size 0 5)) 5 ((bytesRow (str bs) (grownCap w (str bs).size 0 5)).size, (bytesRow (str bs) (grownCap w (str bs).size 0 5)).size + 1))).heap[w.heap.size]? = some (.cells (bytesRow (str bs) (grownCap w (str bs).size 0 5)) 5 ((bytesRow (str bs) (grownCap w (str bs).size 0 5)).size, (bytesRow (str bs) (grownCap w (str bs).size 0 5)).size + 1)) := heap_alloc_new w.drew _
    rw [Nat.zero_add]
    unfold World.cell?
    rw [h2]
    simp only [List.getElem?_map, List.getElem?_eq_getElem hj, Option.map_some, Option.some.injEq] at hu
    subst hu
    simp [B]
    exact h1

/-- What stands there is laid there again: nothing is changed. -/
theorem setCell_there {w : World} {b o : Nat} {v : Value} (h : w.cell? ⟨b, o, none⟩ = some v) (F : Nat → Prop) : Mods F w (w.setCell ⟨b, o, none⟩ v) := by
  refine ⟨rfl, rfl, rfl, by simp [World.setCell], fun k hk _ => ?_⟩
  by_cases hb : b = k
  · subst hb
    unfold World.cell? at h
    cases ho : w.heap[b]? with
    | none => rw [ho] at h; simp at h
    | some ob =>
      rw [ho] at h
      cases ob with
      | cells cs T fr =>
        simp [World.setCell, Array.getElem?_modify, ho]
        simp at h
        apply Array.ext_getElem?
        intro i
        by_cases hi : o = i
        · subst hi
          rw [Array.getElem?_setIfInBounds_self]
          obtain ⟨h3, h4⟩ := Array.getElem?_eq_some_iff.1 h
          simp [h3, h4]
        · rw [Array.getElem?_setIfInBounds_ne hi]
      | _ => simp at h
  · simp [World.setCell, Array.getElem?_modify, hb]

set_option maxRecDepth 100000 in
set_option maxHeartbeats 2000000 in
theorem textw_any (c p : Nat) (ao : Option Addr) (cap : Nat) (bad : Bool) (bs : List UInt8) (b o : Nat) (most : Int) (xs : List UInt8) (w : World) (h : CW w c p ao cap bad bs) (hlen : bs.length + xs.length + 8 ≤ 20000000)
    (hx : w.cell? ⟨b, o, none⟩ = some (.string (str xs)) ∧ w.frozen? ⟨b, o, none⟩ = false ∧ ¬ FC c p ao b) :
    Calls Try.prog 51 #[.pointer (some ⟨c, 0, none⟩), .pointer (some ⟨b, o, none⟩), .int .i64 most] w (CPost w c p ao (.tuple #[]) (bad || !decide ((xs.length : Int) ≤ most)) (bs ++ row xs)) := by
  have H := hid h; have HX := hid hx; have hcell := hx.1
  obtain ⟨cp, ob, heq, hsl⟩ := conv_sb xs w
  have HSL := hid hsl
  clear h hx hsl
  go_enter Try.func51, Try.ntmps51
  go_wp2_with fail
  have hm0 : Mods (fun _ => False) w ((w.alloc ob).alloc (.cells #[.slice (some ⟨w.heap.size, 0, none⟩) xs.length cp] 22)).drew := ((Mods.alloc _ w ob).trans (Mods.alloc _ _ _)).trans (Mods.drew _ _)
  have hsz : ((w.alloc ob).alloc (.cells #[.slice (some ⟨w.heap.size, 0, none⟩) xs.length cp] 22)).drew.heap.size = w.heap.size + 2 := by simp
  have hvar : ((w.alloc ob).alloc (.cells #[.slice (some ⟨w.heap.size, 0, none⟩) xs.length cp] 22)).drew.cell? ⟨w.heap.size + 1, 0, none⟩ = some (.slice (some ⟨w.heap.size, 0, none⟩) xs.length cp) := by simp
  have hs0 : SlB ((w.alloc ob).alloc (.cells #[.slice (some ⟨w.heap.size, 0, none⟩) xs.length cp] 22)).drew (some ⟨w.heap.size, 0, none⟩) cp xs := HSL.out.alloc _
  generalize ((w.alloc ob).alloc (.cells #[.slice (some ⟨w.heap.size, 0, none⟩) xs.length cp] 22)).drew = w0 at hm0 hsz hvar hs0 ⊢
  have hnew : ∀ k, w.heap.size ≤ k → ¬ FC c p ao k := fun k hk hf => by
    rcases hf with e | e | e
    · have := H.out.lt; omega
    · have := H.out.wr.lt; omega
    · have := H.out.wr.own.lt _ e; omega
  refine (roww_any c p ao cap bad bs ⟨w.heap.size + 1, 0, none⟩ most _ _ xs w0 (H.out.new hm0) hlen ⟨hvar, hnew _ (by simp)⟩ hs0 (fun k hk => by
    have hk' : w.heap.size = k := hk.2
    exact ⟨by omega, hnew k (by omega)⟩)).mono ?_
  rintro e w1 ⟨ao1, cap1, rfl, hw1, hg1⟩
  have hvar1 := hg1.mods.cell hvar (hnew _ (by simp))
  have hcv := run_conv (hs0.keep hg1.mods fun k hk => by
    have hk' : w.heap.size = k := hk.2
    exact hnew k (by omega))
  have hg01 : CGrew w c p ao w1 ao1 := ⟨(hm0.mono fun _ _ h => h.elim).trans hg1.mods, fun k hk => by
    rcases hg1.fresh k hk with h | h
    · exact .inl h
    · exact .inr (by omega)⟩
  have hcell1 := hg01.mods.cell hcell HX.out.2.2
  have hlt : b < w.heap.size := World.block_lt_of_cell? w ⟨b, o, none⟩ hcell
  have hfr1 : w1.frozen? ⟨b, o, none⟩ = false := (World.frozen?_of_block (w := w) (hg01.mods.block b hlt HX.out.2.2)).trans HX.out.2.1
  have hfin := hid (hw1.new (setCell_there hcell1 _))
  have hgf := hid (hg01.new (setCell_there hcell1 _))
  clear hg1 hw1 hg01 hnew hs0 hvar hm0 HSL heq hcell
  go_wp2
  go_end0
  exact ⟨ao1, cap1, rfl, hfin.out, hgf.out⟩

end Go.Proofs.Ytanknjpcgceccaa
