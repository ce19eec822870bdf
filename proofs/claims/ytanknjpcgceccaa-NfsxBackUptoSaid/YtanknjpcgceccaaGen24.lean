/- nfsx's coder: the lines of a directory, any, whether it reads or writes. (Printed by wip/tools/gen_gen24.py.) -/
import Derived.Test.YtanknjpcgceccaaEnt
namespace Go.Proofs.Ytanknjpcgceccaa
open Go.RowKit

/-- At a line: the coder, the block whose cell o holds the slice, the slice's own. -/
structure EI (w0 : World) (F0 : Nat → Prop) (c g o : Nat) (A : Cells) (e0 : Option Addr) (w : World) (F : Nat → Prop) (eo : Option Addr) (ec : Nat) (s : St) (es : List EntryV) : Prop where
  co : CO w c F s
  bl : Blk w g (upd A o (.slice eo es.length ec))
  ow : OwnE w eo ec es
  apg : ¬ F g
  ape : ∀ k, blk eo k → ¬ F k ∧ k ≠ g
  ok : ∀ e ∈ es, e.ok
  mods : Mods (fun k => F0 k ∨ k = g ∨ blk e0 k) w0 w
  fresh : ∀ k, F k → F0 k ∨ w0.heap.size ≤ k
  efresh : ∀ k, blk eo k → blk e0 k ∨ w0.heap.size ≤ k
section
variable {w0 : World} {F0 : Nat → Prop} {c g o : Nat} {A : Cells} {e0 : Option Addr} {w w' : World} {F F' : Nat → Prop} {eo : Option Addr} {ec : Nat} {s s' : St} {es : List EntryV}
theorem EI.step (h : EI w0 F0 c g o A e0 w F eo ec s es) {G : Nat → Prop} (hco : CO w' c F' s') (hm : Mods G w w') (hfr : ∀ k, F' k → F k ∨ w.heap.size ≤ k) (hG : ∀ k, k < w.heap.size → G k → F k) : EI w0 F0 c g o A e0 w' F' eo ec s' es := by
  have hm' : Mods F w w' := hm.mono hG
  have ap : ∀ {k}, ¬ F k → k < w.heap.size → ¬ F' k := fun hk hlt hf => by
    rcases hfr _ hf with e | e
    · exact hk e
    · omega
  refine ⟨hco, h.bl.keep hm' h.apg, h.ow.keep hm' fun k hk => (h.ape k hk).1, ap h.apg h.bl.lt, fun k hk => ⟨ap (h.ape k hk).1 (h.ow.lt k hk), (h.ape k hk).2⟩, h.ok, h.mods.step hm' fun k hk hf => ?_, fun k hk => ?_, h.efresh⟩
  · rcases h.fresh k hf with e | e
    · exact .inl e
    · omega
  · rcases hfr k hk with e | e
    · exact h.fresh k e
    · exact .inr (Nat.le_trans h.mods.size e)
theorem EI.quiet (h : EI w0 F0 c g o A e0 w F eo ec s es) (hm : Mods (fun _ => False) w w') : EI w0 F0 c g o A e0 w' F eo ec s es :=
  h.step (h.co.keep hm fun _ _ h => h) hm (fun _ h => .inl h) fun _ _ h => h.elim
theorem EI.must (h : EI w0 F0 c g o A e0 w F eo ec s es) (b : Bool) :
    Calls Try.prog 70 #[.pointer (some ⟨c, 0, none⟩), .bool b] w fun e w' => e = .returned (.tuple #[]) ∧ ∃ F', Hid (EI w0 F0 c g o A e0 w' F' eo ec (s.must b) es) := by
  have hb : Blk (w.alloc (.cells #[] 4)) w.heap.size (fun j => (#[] : Array Value)[j]?) := Blk.new w _ _
  refine (must_gen c F s b g _ w h.co h.bl h.apg).mono ?_
  rintro e w' ⟨F', rfl, q1, q2, q3, q4⟩
  have hgg : GG w F g w' F' := ⟨q2, q3⟩
  refine ⟨rfl, F', ⟨q1, q4, h.ow.keep q2 fun k hk hf => hf.elim (h.ape k hk).1 (h.ape k hk).2, hgg.apart h.apg h.bl.lt, fun k hk => ⟨hgg.apart (h.ape k hk).1 (h.ow.lt k hk), (h.ape k hk).2⟩, h.ok, h.mods.step q2 fun k hk hf => ?_, fun k hk => ?_, h.efresh⟩⟩
  · rcases hf with hf | rfl
    · rcases h.fresh k hf with e | e
      · exact .inl e
      · omega
    · exact .inr (.inl rfl)
  · rcases q3 k hk with e | e
    · exact h.fresh k e
    · exact .inr (Nat.le_trans h.mods.size e)
theorem EI.line (h : EI w0 F0 c g o A e0 w F eo ec s es) {i : Nat} {e : EntryV} (hi : es[i]? = some e) :
    ∃ b B, eo = some ⟨b, 0, none⟩ ∧ OwnAt w b ec es B ∧ At w c F b (s, B) ∧ Typed (layAt i) B ∧ B (i * 20 + 1) = some (.string (str e.name)) ∧ B (i * 20 + 19) = some (.string (str e.handle)) := by
  obtain ⟨b, B, rfl, ha⟩ := h.ow.at hi
  have hm : e ∈ es := List.mem_of_getElem? hi
  exact ⟨b, B, rfl, ha, ⟨h.co, ha.bl, (h.ape b rfl).1⟩, layAt_ty (h.ok e hm) (ha.here i e hi), ha.here i e hi 1 (by decide), ha.here i e hi 19 (by decide)⟩
theorem EI.lined {b i n : Nat} {B : Cells} {e : EntryV} {plus : Bool} (h : EI w0 F0 c g o A e0 w F (some ⟨b, 0, none⟩) ec s es) (hi : es[i]? = some e) (ha : OwnAt w b ec es B) (q : At w' c F' b (pEntry plus (i * 20) (s, B))) (gg : GG w F b w' F') (hk : Ok (layAt i) n (pEntry plus (i * 20) (s, B))) :
    EI w0 F0 c g o A e0 w' F' (some ⟨b, 0, none⟩) ec (oneLine plus s e).2 (es.set i (oneLine plus s e).1) := by
  obtain ⟨h1, h2, h3⟩ := ha.put hi q.bl hk
  have hbg : b ≠ g := (h.ape b rfl).2
  have hl := h.bl.keep gg.mods fun hf => hf.elim h.apg (Ne.symm hbg)
  refine ⟨by rw [h3]; exact q.co, by rw [List.length_set]; exact hl, .inr ⟨b, _, rfl, h1⟩, gg.apart h.apg h.bl.lt, fun k hk => by cases hk; exact ⟨q.ap, hbg⟩, fun x hx => ?_, h.mods.step gg.mods fun k hk hf => ?_, fun k hk => ?_, h.efresh⟩
  · rcases List.mem_or_eq_of_mem_set hx with hx | rfl
    · exact h.ok x hx
    · exact h2
  · rcases hf with hf | rfl
    · rcases h.fresh k hf with e | e
      · exact .inl e
      · omega
    · rcases h.efresh k rfl with e | e
      · exact .inr (.inr e)
      · omega
  · rcases gg.fresh k hk with e | e
    · exact h.fresh k e
    · exact .inr (Nat.le_trans h.mods.size e)
theorem EI.more (h : EI w0 F0 c g o A e0 w F eo ec s es) {eo' : Option Addr} {ec' : Nat} (ho : OwnE w' eo' ec' (es ++ [zeroE])) (hm : Mods (blk eo) w w') (hf : ∀ k, blk eo' k → blk eo k ∨ w.heap.size ≤ k) :
    (w'.cell? ⟨g, o, none⟩).isSome = true ∧ w'.frozen? ⟨g, o, none⟩ = false ∧ EI w0 F0 c g o A e0 (w'.setCell ⟨g, o, none⟩ (.slice eo' (es.length + 1) ec')) F eo' ec' s (es ++ [zeroE]) := by
  have hg : ¬ blk eo g := fun hb => (h.ape g hb).2 rfl
  have hb1 := h.bl.keep hm hg
  have hm2 : Mods (fun k => k = g) w' (w'.setCell ⟨g, o, none⟩ (.slice eo' (es.length + 1) ec')) := Mods.setCell (F := fun k => k = g) (a := ⟨g, o, none⟩) rfl _
  have hb2 := hb1.set (o := o) (u := .slice eo es.length ec) (upd_at _ _ _) (.slice eo' (es.length + 1) ec')
  have hape : ∀ k, blk eo' k → ¬ F k ∧ k ≠ g := fun k hk => by
    rcases hf k hk with e | e
    · exact h.ape k e
    · exact ⟨fun hF => by have := h.co.lt k hF; omega, by have := h.bl.lt; omega⟩
  refine ⟨by rw [hb1.cell o, upd_at]; rfl, hb1.free o, ⟨(h.co.keep hm fun k hk hb => (h.ape k hb).1 hk).keep hm2 fun k hk e => h.apg (e ▸ hk), ?_, ho.keep hm2 fun k hk => (hape k hk).2, h.apg, hape, fun x hx => ?_, (h.mods.step hm fun k hk hb => ?_).step hm2 fun k hk e => .inr (.inl e), h.fresh, fun k hk => ?_⟩⟩
  · refine hb2.congr ?_
    funext j
    by_cases e : j = o
    · subst e; simp only [upd_at, List.length_append, List.length_singleton]
    · simp only [upd_ne _ _ e]
  · rw [List.mem_append, List.mem_singleton] at hx
    rcases hx with hx | rfl
    · exact h.ok x hx
    · exact zeroE_ok
  · rcases h.efresh k hb with e | e
    · exact .inr (.inr e)
    · omega
  · rcases hf k hk with e | e
    · exact h.efresh k e
    · exact .inr (Nat.le_trans h.mods.size e)
end

/-- Cells that are laid over a block's. -/
theorem Blk.over {w : World} {g : Nat} {A : Cells} (h : Blk w g A) (o : Nat) (l : List Value) (hA : ∀ j, j < l.length → (A (o + j)).isSome = true) : Blk (w.setCells g o l) g (fun j => if o ≤ j ∧ j < o + l.length then l[j - o]? else A j) := by
  have hm : Mods (fun k => k = g) w (w.setCells g o l) := Mods.setCells _ rfl
  refine ⟨Nat.lt_of_lt_of_le h.lt hm.size, fun j => ?_, fun j => by rw [World.frozen?_setCells]; exact h.free j⟩
  by_cases hj : o ≤ j ∧ j < o + l.length
  · rw [if_pos hj]
    have h3 := World.cell?_setCells_in g l o w (fun i hi => by rw [h.cell]; exact hA i hi) (j - o) (by omega)
    rw [show o + (j - o) = j by omega] at h3
    rw [h3, List.getElem?_eq_getElem (by omega)]
  · rw [if_neg hj, World.cell?_setCells_out g l o w ⟨g, j, none⟩ (fun _ _ => by show j < o ∨ o + l.length ≤ j; omega), h.cell j]

/-- append(l, api.Entry{}) -/
theorem wpList_appE (w : World) {ops : Array Oper} {rest : List Oper} {op : Oper} {a : Act} {Q : Exit → Act → World → Prop} (hgd : op.guard = none) (s x : Operand)
    (ho : op.op = .call { callee := .builtin .append, args := #[s, x], argTypes := #[40, 40] })
    (eo : Option Addr) (n ec : Nat) (es : List EntryV) (hs : a.eval s = .slice eo n ec) (hn : n = es.length) (hown : OwnE w eo ec es)
    (b : Nat) (hx : a.eval x = .slice (some ⟨b, 0, none⟩) 1 1) (hb : ∀ j u, zeroE.cells[j]? = some u → w.cell? ⟨b, j, none⟩ = some u) (hbig : es.length ≤ 100000)
    (h : ∀ eo' ec' w', OwnE w' eo' ec' (es ++ [zeroE]) → Mods (blk eo) w w' → (∀ k, blk eo' k → blk eo k ∨ w.heap.size ≤ k) → wpList Try.prog ops Q rest (a.put op.dst (.slice eo' (es.length + 1) ec')) w') : wpList Try.prog ops Q (op :: rest) a w := by
  subst hn
  obtain ⟨i0, hi, hz0, hz1, hz2⟩ := info_parts Try.infoE
  have hfl : flatE (es ++ [zeroE]) = flatE es ++ zeroE.cells := by simp [flatE]
  have hz : (Value.agg zeroE.cells.toArray).cells.size = 20 := rfl
  rcases hown with ⟨rfl, rfl, rfl⟩ | ⟨b', B, rfl, ha⟩
  · refine wpList_app w hgd s x _ ho 105 i0 _ 20 144 Try.underlying40 hi hz0 hz1 hz2 hz (by decide) none _ 0 [] hs (Own.nil _ _ _) (some ⟨b, 0, none⟩) 1 1 zeroE.cells hx ⟨by rfl, Nat.le_refl _, by simp, fun j u hu => ⟨b, 0, rfl, by rw [Nat.zero_add]; exact hb j u hu⟩⟩ (by have := oneCell_E [zeroE]; simpa [flatE] using this) (by decide) (by decide) ?_
    intro ao' cap' w' h1 h2 h3
    have hrow : w'.ownsRow 0 105 20 (.slice ao' (0 + 1) cap') ([zeroE] : List EntryV).length (flatE [zeroE]) := by
      rw [show flatE [zeroE] = [] ++ zeroE.cells by simp [flatE]]
      exact h1
    obtain ⟨eo1, ec1, he, ho1, _⟩ := OwnE.of_row hrow
    simp only [Value.slice.injEq] at he
    obtain ⟨rfl, _, rfl⟩ := he
    exact h _ _ _ ho1 h2 h3
  · refine wpList_append_arg w hgd s x _ ho 105 i0 _ 20 144 Try.underlying40 hi hz0 hz1 hz2 hz (by decide) b' 0 es.length ec (flatE es) hs (flatE_len es) (fun j u hj => by rw [Nat.zero_add, ha.bl.cell]; exact ha.flat hj) ⟨b, 0, none⟩ 1 1 zeroE.cells hx (by rfl) (fun j u hu => by rw [Addr.add_lit, Nat.zero_add]; exact hb j u hu) (by have := oneCell_E [zeroE]; simpa [flatE] using this)
      (fun hr j hj => ?_) (by simp only [maxLen]; omega) (by omega) (fun hr => ?_) (fun hg v' w' h1 h2 => ?_)
    · have hj20 : j < 20 := hj
      rw [ha.bl.cell]
      exact ⟨ha.all _ (by omega), ha.bl.free _⟩
    · refine h _ _ _ (.inr ⟨b', _, rfl, ha.bl.over (0 + es.length * 20) zeroE.cells (fun j hj => by have hj20 : j < 20 := hj; exact ha.all _ (by omega)), by simp; omega, ha.cap, fun i e hi j hj => ?_, fun j hj => ?_⟩) ((Mods.setCells (F := fun k => k = b') _ rfl).mono fun k _ e => e ▸ rfl) fun k hk => .inl hk
      · by_cases hlt : i < es.length
        · rw [List.getElem?_append_left hlt] at hi
          show (if 0 + es.length * 20 ≤ i * 20 + j ∧ i * 20 + j < 0 + es.length * 20 + 20 then _ else _) = _
          rw [if_neg (by omega)]
          exact ha.here i e hi j hj
        · rw [List.getElem?_append_right (by omega)] at hi
          have hie : i = es.length := by
            have := (List.getElem?_eq_some_iff.1 hi).1
            simp at this; omega
          subst hie
          simp at hi
          subst hi
          show (if 0 + es.length * 20 ≤ es.length * 20 + j ∧ es.length * 20 + j < 0 + es.length * 20 + 20 then zeroE.cells[es.length * 20 + j - (0 + es.length * 20)]? else _) = _
          rw [if_pos (by omega), show es.length * 20 + j - (0 + es.length * 20) = j by omega]
          rfl
      · show (if 0 + es.length * 20 ≤ j ∧ j < 0 + es.length * 20 + 20 then zeroE.cells[j - (0 + es.length * 20)]? else B j).isSome = true
        split
        · rw [List.getElem?_eq_getElem (by show _ < 20; omega)]; rfl
        · exact ha.all j hj
    · rw [← hfl] at h1
      have hrow : w'.ownsRow w.heap.size 105 20 v' (es ++ [zeroE]).length (flatE (es ++ [zeroE])) := by simpa using h1
      obtain ⟨eo1, ec1, rfl, ho1, h3⟩ := OwnE.of_row hrow
      rw [show (es ++ [zeroE]).length = es.length + 1 by simp]
      exact h _ _ _ ho1 ((Mods.of_grown h2).mono fun k _ e => by cases e) fun k hk => .inr (h3 k hk)

/-- What entries leaves. -/
def EQ (w0 : World) (F0 : Nat → Prop) (c g o : Nat) (A : Cells) (e0 : Option Addr) (r : List EntryV × St) (e : Ending) (w' : World) : Prop :=
  e = .returned (.tuple #[]) ∧ ∃ F' eo' ec', Hid (EI w0 F0 c g o A e0 w' F' eo' ec' r.2 r.1) ∧ Hid (r.2.size ≤ 10000000)

set_option maxRecDepth 100000 in
set_option maxHeartbeats 8000000 in
theorem entries_gen (c : Nat) (F0 : Nat → Prop) (g o : Nat) (A : Cells) (e0 : Option Addr) (c0 : Nat) (s0 : St) (es0 : List EntryV) (plus : Bool) (w0 : World) (h : EI w0 F0 c g o A e0 w0 F0 e0 c0 s0 es0) (hrd : s0.isWr = false → es0 = []) (hroom : s0.size + roomFrom 0 es0 + 8 ≤ 10000000) (hlen : es0.length ≤ 9223372036854775807) :
    Calls Try.prog 91 #[.pointer (some ⟨c, 0, none⟩), .pointer (some ⟨g, o, none⟩), .bool plus] w0 (EQ w0 F0 c g o A e0 (linesAll plus es0 s0)) := by
  have D := hid (h.must (decide ((es0.length : Int) ≤ 1024)))
  have hcell : w0.cell? ⟨g, o, none⟩ = some (.slice e0 es0.length c0) := (h.bl.cell o).trans (upd_at _ _ _)
  have HRD := hid hrd; have HROOM := hid hroom
  clear h hrd hroom
  go_enter Try.func91, Try.ntmps91
  go_wp2_with fail
  refine D.out.mono ?_
  rintro e w1 ⟨rfl, F1, E1⟩
  clear D hcell
  obtain ⟨s1, hs1⟩ : ∃ z, z = s0.must (decide ((es0.length : Int) ≤ 1024)) := ⟨_, rfl⟩
  have HS1 := hid hs1
  have HW1 : Hid (s1.isWr = s0.isWr) := by show _ = _; rw [hs1]; cases s0 <;> rfl
  have HZ1 : Hid (s1.size = s0.size) := by show _ = _; rw [hs1]; exact St.size_must _ _
  rw [← hs1] at E1
  clear hs1
  go_wp2_with fail
  go_loopw [6] (fun i wr => ∃ (k : Nat) (F : Nat → Prop) (eo : Option Addr) (ec : Nat) (s : St) (es : List EntryV), i = .int .i64 (k : Int) ∧ Hid (EI w0 F0 c g o A e0 wr F eo ec s es) ∧
      Hid (linesAll plus es0 s0 = lines plus (es0.length + 1026 - k) k es s) ∧ Hid (s.isWr = true → k ≤ es.length ∧ es.length = es0.length) ∧ Hid (s.isWr = false → es.length = k ∧ k ≤ 1025 ∧ (s.bad = false → k ≤ 1024)) ∧ Hid (s.size + roomFrom k es + 8 ≤ 10000000)) (fun i _ => es0.length + 1030 - (intOf i).toNat)
  case atStart =>
    exact ⟨0, F1, e0, c0, s1, es0, by go_num, E1, by show _ = _; rw [linesAll, ← HS1.out]; rfl, fun _ => ⟨Nat.zero_le _, rfl⟩, fun hw => by
      have := HRD.out (HW1.out.symm.trans hw); subst this; exact ⟨rfl, by decide, fun _ => by decide⟩, by show _ ≤ _; rw [HZ1.out]; exact HROOM.out⟩
  case round =>
    clear E1 HS1 HW1 HZ1 HROOM HRD
    obtain ⟨k, F, eo, ec, s, es, rfl, HE, HL, HWR, HRDD, HSZ⟩ := hrel
    have hc2 := HE.out.co.c2
    obtain ⟨bd, hbd⟩ : ∃ b, b = s.bad := ⟨_, rfl⟩
    rw [← hbd] at hc2
    have HB := hid hbd
    clear hbd
    cases bd
    rotate_left
    · go_wp2
      go_end0
      rw [HL.out, lines_bad HB.out.symm]
      exact ⟨rfl, F, eo, ec, HE, by have := HSZ.out; show s.size ≤ _; omega⟩
    obtain ⟨m, hm, hm1⟩ : ∃ m, es0.length + 1026 - k = m + 1 ∧ es0.length + 1026 - (k + 1) = m := by
      cases hw : s.isWr
      · have := HRDD.out hw; have := this.2.2 HB.out.symm; exact ⟨es0.length + 1025 - k, by omega, by omega⟩
      · have := HWR.out hw; exact ⟨es0.length + 1025 - k, by omega, by omega⟩
    have HM := hid (And.intro hm hm1)
    clear hm hm1
    have hcell : wr.cell? ⟨g, o, none⟩ = some (.slice eo es.length ec) := (HE.out.bl.cell o).trans (upd_at _ _ _)
    cases s with
    | wr bad out =>
      obtain rfl : bad = false := HB.out.symm
      have HLE : Hid (k ≤ es.length ∧ es.length = es0.length) := HWR.out rfl
      by_cases hlt : k < es.length
      · have hlt' : (k : Int) < (es.length : Int) := by omega
        have hm2 : Mods (fun _ => False) wr (wr.alloc (.cells #[.bool true] 4)) := Mods.alloc _ _ _
        have hnew : ¬ F wr.heap.size := fun hf => by have := HE.out.co.lt _ hf; omega
        have D : Hid (Calls Try.prog 53 #[.pointer (some ⟨c, 0, none⟩), .pointer (some ⟨wr.heap.size, 0, none⟩)] (wr.alloc (.cells #[.bool true] 4)) (GP (wr.alloc (.cells #[.bool true] 4)) c F wr.heap.size (.bool true) (.wr false (out ++ be 4 (boolNum true))) (upd (fun j => #[Value.bool true][j]?) 0 (.bool true)))) := truth_gen c F (.wr false out) wr.heap.size (fun j => #[Value.bool true][j]?) 0 true _ (HE.out.co.keep hm2 fun _ _ h => h) (Blk.new wr _ _) hnew (by have := HSZ.out; omega) rfl
        clear hnew
        go_wp2_with fail
        refine D.out.mono ?_
        rintro e w2 ⟨F2, rfl, q1, q2, q3, q4⟩
        have E2 : Hid (EI w0 F0 c g o A e0 w2 F2 eo ec (.wr false (out ++ be 4 (boolNum true))) es) := HE.out.step q1 ((hm2.mono fun _ _ h => h.elim).trans q2) (fun j hj => by
          rcases q3 j hj with h1 | h1
          · exact .inl h1
          · exact .inr (Nat.le_trans hm2.size h1)) fun j hj hf => by
          rcases hf with hf | hf
          · exact hf
          · omega
        have hcell : w2.cell? ⟨g, o, none⟩ = some (.slice eo es.length ec) := (E2.out.bl.cell o).trans (upd_at _ _ _)
        clear D q1 q2 q3 q4 hm2 hc2 HE
        obtain ⟨pp, hc1⟩ : ∃ p, w2.cell? ⟨c, 1, none⟩ = some (.pointer (some p)) := by
          rcases E2.out.co.c1 with ⟨_, h⟩ | ⟨h, _⟩
          · exact h
          · cases h
        have hne : ((k : Int) == (es.length : Int)) = false := by rw [beq_eq_false_iff_ne]; omega
        obtain ⟨e1, he1⟩ : ∃ e, es[k]? = some e := ⟨_, List.getElem?_eq_getElem hlt⟩
        have HI := hid he1
        obtain ⟨s1, hs1⟩ : ∃ z, z = St.wr false (out ++ be 4 (boolNum true)) := ⟨_, rfl⟩
        have HLL : Hid (linesAll plus es0 s0 = lines plus (es0.length + 1026 - (k + 1)) (k + 1) (es.set k (oneLine plus s1 e1).1) (oneLine plus s1 e1).2) := by
          show _ = _
          rw [HL.out, HM.out.1, HM.out.2]
          refine lines_go (s := .wr false out) (s2 := s1) rfl ?_ (by rw [hs1]; rfl) (if_neg (by omega)) (if_neg (by omega)) HI.out
          rw [decide_eq_true hlt', hs1]; rfl
        have HW1 : Hid (s1.isWr = true → k < es.length ∧ es.length = es0.length) := fun _ => ⟨hlt, HLE.out.2⟩
        have HKB : Hid ((k : Int) + 1 ≤ 9223372036854775807) := by have := HLE.out.2; show _ ≤ _; omega
        have HR1 : Hid (s1.isWr = false → es.length = k + 1 ∧ k + 1 ≤ 1025 ∧ (s1.bad = false → k + 1 ≤ 1024)) := fun hw => by rw [hs1] at hw; cases hw
        have HZ1 : Hid (s1.size + (e1.name.length + e1.handle.length + 150) + roomFrom (k + 1) es + 8 ≤ 10000000) := by
          have h1 := HSZ.out
          rw [roomFrom_at HI.out] at h1
          have h2 : s1.size = (St.wr false out).size + 4 := by rw [hs1]; simp [St.size, be_length]
          show _ ≤ _
          rw [h2]
          simp only [EntryV.room] at h1
          omega
        rw [← hs1] at E2
        clear hs1 he1 HSZ HWR HRDD HB HLE HL
        obtain ⟨ec1, hec⟩ : ∃ z, z = ec := ⟨_, rfl⟩
        subst hec
        obtain ⟨es1, hes⟩ : ∃ z, z = es := ⟨_, rfl⟩
        subst hes
        go_upto_region 9 with fail
        clear hcell hc1 hne hlt hlt'
        obtain ⟨b, B, rfl, hat, hA, hT, hnm, hhd⟩ := E2.out.line HI.out
        have hcell : w2.cell? ⟨g, o, none⟩ = some (.slice (some ⟨b, 0, none⟩) es1.length ec1) := (E2.out.bl.cell o).trans (upd_at _ _ _)
        have hkl : k < es1.length := (List.getElem?_eq_some_iff.1 HI.out).1
        have HAT := hid hat; have HNM := hid hnm; have HHD := hid hhd
        obtain ⟨y0, hy0⟩ : ∃ z : X, z = (s1, B) := ⟨_, rfl⟩
        have A0 : Hid (At w2 c F2 b y0) := by rw [hy0]; exact hA
        have K0 : Hid (Ok (layAt k) 10000000 y0) := by rw [hy0]; exact ⟨hT, by have := HZ1.out; show s1.size ≤ _; omega⟩
        have G0 : Hid (GG w2 F2 b w2 F2) := GG.refl _ _ _
        have HY0 := hid hy0
        have HTY := hid hT
        clear hA hT hnm hhd hat hy0
        have hk0 : (0 : Int) ≤ (k : Int) := by omega
        have hkl' : (k : Int) < (es1.length : Int) := by omega
        go_upto_region 10 with fail
        clear hcell
        obtain ⟨y1, e1'⟩ : ∃ z, z = num1 8 .u64 (k * 20) y0 := ⟨_, rfl⟩
        have K1 : Hid (Ok (layAt k) (10000008) y1) := by rw [e1']; exact (K0.out.num8 (o := k * 20) (layAt_get (j := 0) rfl)).mono (by decide)
        have C := A0.out.u64 K0.out (by decide) (o := k * 20) 125 (layAt_get (j := 0) rfl)
        rw [← e1'] at C
        have D := hid C; have Y1 := hid e1'; clear C e1'
        go_wp2_with fail
        refine D.out.mono ?_
        rintro e wa ⟨rfl, Fa, Aa, ga⟩
        have Ga := hid (G0.out.trans ga.out); clear D ga
        obtain ⟨y2, e2'⟩ : ∃ z, z = pText 255 (k * 20 + 1) y1 := ⟨_, rfl⟩
        have K2 : Hid (Ok (layAt k) (12000016) y2) := by rw [e2']; exact (K1.out.text (o := k * 20 + 1) (by decide) (layAt_get (j := 1) rfl)).mono (by decide)
        have C := Aa.out.text K1.out (by decide) (o := k * 20 + 1) (most := 255) (layAt_get (j := 1) rfl)
        rw [← e2'] at C
        have D := hid C; have Y2 := hid e2'; clear C e2'
        go_wp2_with fail
        refine D.out.mono ?_
        rintro e wb ⟨rfl, Fb, Ab, gb⟩
        have Gb := hid (Ga.out.trans gb.out); clear D gb
        obtain ⟨y3, e3'⟩ : ∃ z, z = num1 8 .u64 (k * 20 + 2) y2 := ⟨_, rfl⟩
        have K3 : Hid (Ok (layAt k) (12000024) y3) := by rw [e3']; exact (K2.out.num8 (o := k * 20 + 2) (layAt_get (j := 2) rfl)).mono (by decide)
        have C := Ab.out.u64 K2.out (by decide) (o := k * 20 + 2) 125 (layAt_get (j := 2) rfl)
        rw [← e3'] at C
        have D := hid C; have Y3 := hid e3'; clear C e3'
        go_wp2_with fail
        refine D.out.mono ?_
        rintro e wd ⟨rfl, Fd, Ad, gd⟩
        have Gd := hid (Gb.out.trans gd.out); clear D gd
        cases plus
        · have hend : y3 = pEntry false (k * 20) (s1, B) := by rw [Y3.out, Y2.out, Y1.out, HY0.out]; rfl
          have HENT : Hid (Ok (layAt k) (s1.size + (e1.name.length + e1.handle.length + 150)) (pEntry false (k * 20) (s1, B))) := Ok.entry (x := (s1, B)) ⟨HTY.out, Nat.le_refl _⟩ false (by show (sv (B (k * 20 + 1))).length ≤ _; rw [HNM.out, sv_str]; exact Nat.le_refl _) (by show (sv (B (k * 20 + 19))).length ≤ _; rw [HHD.out, sv_str]; exact Nat.le_refl _)
          rw [hend] at Ad
          have HEN := hid (E2.out.lined HI.out HAT.out Ad.out Gd.out HENT.out)
          have HSO : Hid ((oneLine false s1 e1).2 = (pEntry false (k * 20) (s1, B)).1) := (HAT.out.put HI.out Ad.out.bl HENT.out).2.2
          have HLK : Hid (Like (oneLine false s1 e1).2 s1) := by rw [HSO.out]; exact like_pEntry _ _ _
          obtain ⟨q, hq⟩ : ∃ z, z = oneLine false s1 e1 := ⟨_, rfl⟩
          rw [← hq] at HEN HSO HLK HLL
          clear hq hend
          have hkb : (k : Int) + 1 ≤ 9223372036854775807 := HKB.out
          go_wp2
          go_roundw
          case rel =>
            refine ⟨k + 1, Fd, some ⟨b, 0, none⟩, ec1, q.2, es1.set k q.1, by go_num, HEN, HLL, fun hw => ?_, fun hw => ?_, ?_⟩
            · have h1 := HW1.out (HLK.out.1.symm.trans hw)
              exact ⟨by rw [List.length_set]; omega, by rw [List.length_set]; exact h1.2⟩
            · have h1 := HR1.out (HLK.out.1.symm.trans hw)
              refine ⟨by rw [List.length_set]; exact h1.1, by omega, fun hb => ?_⟩
              refine h1.2.2 ?_
              cases hbb : s1.bad
              · rfl
              · have h2 := worse_pEntry false (k * 20) (s1, B) hbb
                rw [← HSO.out] at h2
                rw [h2] at hb; exact hb
            · show q.2.size + roomFrom (k + 1) (es1.set k q.1) + 8 ≤ 10000000
              rw [roomFrom_set, HSO.out]
              have h1 := HENT.out.size
              have h2 := HZ1.out
              omega
          case measure =>
            have := HM.out
            simp [intOf]
            omega
        · obtain ⟨y4, e4'⟩ : ∃ z, z = pPost (k * 20 + 3) y3 := ⟨_, rfl⟩
          have K4 : Hid (Ok (layAt k) (12000112) y4) := by rw [e4']; exact (K3.out.post (o := k * 20 + 3) layAt_post).mono (by decide)
          have C := post_gen c Fd b y3 (layAt k) 12000024 (k * 20 + 3) wd Ad.out K3.out (by decide) layAt_post
          rw [← e4'] at C
          have D := hid C; have Y4 := hid e4'; clear C e4'
          go_wp2_with fail
          refine D.out.mono ?_
          rintro e wf ⟨rfl, Ff, Af, gf⟩
          have Gf := hid (Gd.out.trans gf.out); clear D gf
          obtain ⟨y5, e5'⟩ : ∃ z, z = pHandle (k * 20 + 18) (k * 20 + 19) y4 := ⟨_, rfl⟩
          have C := fun w' (hm : Mods (fun _ => False) wf w') => handle_gen c Ff b y4 (layAt k) 12000112 (k * 20 + 18) (k * 20 + 19) w' (Af.out.keep hm) K4.out (by decide) (layAt_get (j := 18) rfl) (layAt_get (j := 19) rfl)
          rw [← e5'] at C
          have D := hid C; have Y5 := hid e5'; clear C e5'
          go_wp2_with fail
          go_region_with (refine (D.out _ (Mods.drew _ _)).mono ?_; rintro e wh ⟨rfl, Fh, Ah, gh⟩; have Gh := hid (Gf.out.trans ((GG.new b (Mods.drew _ _)).trans gh.out)); clear D gh)
          have hend : y5 = pEntry true (k * 20) (s1, B) := by rw [Y5.out, Y4.out, Y3.out, Y2.out, Y1.out, HY0.out]; rfl
          have HENT : Hid (Ok (layAt k) (s1.size + (e1.name.length + e1.handle.length + 150)) (pEntry true (k * 20) (s1, B))) := Ok.entry (x := (s1, B)) ⟨HTY.out, Nat.le_refl _⟩ true (by show (sv (B (k * 20 + 1))).length ≤ _; rw [HNM.out, sv_str]; exact Nat.le_refl _) (by show (sv (B (k * 20 + 19))).length ≤ _; rw [HHD.out, sv_str]; exact Nat.le_refl _)
          rw [hend] at Ah
          have HEN := hid (E2.out.lined HI.out HAT.out Ah.out Gh.out HENT.out)
          have HSO : Hid ((oneLine true s1 e1).2 = (pEntry true (k * 20) (s1, B)).1) := (HAT.out.put HI.out Ah.out.bl HENT.out).2.2
          have HLK : Hid (Like (oneLine true s1 e1).2 s1) := by rw [HSO.out]; exact like_pEntry _ _ _
          obtain ⟨q, hq⟩ : ∃ z, z = oneLine true s1 e1 := ⟨_, rfl⟩
          rw [← hq] at HEN HSO HLK HLL
          clear hq hend
          have hkb : (k : Int) + 1 ≤ 9223372036854775807 := HKB.out
          go_wp2
          go_roundw
          case rel =>
            refine ⟨k + 1, Fh, some ⟨b, 0, none⟩, ec1, q.2, es1.set k q.1, by go_num, HEN, HLL, fun hw => ?_, fun hw => ?_, ?_⟩
            · have h1 := HW1.out (HLK.out.1.symm.trans hw)
              exact ⟨by rw [List.length_set]; omega, by rw [List.length_set]; exact h1.2⟩
            · have h1 := HR1.out (HLK.out.1.symm.trans hw)
              refine ⟨by rw [List.length_set]; exact h1.1, by omega, fun hb => ?_⟩
              refine h1.2.2 ?_
              cases hbb : s1.bad
              · rfl
              · have h2 := worse_pEntry true (k * 20) (s1, B) hbb
                rw [← HSO.out] at h2
                rw [h2] at hb; exact hb
            · show q.2.size + roomFrom (k + 1) (es1.set k q.1) + 8 ≤ 10000000
              rw [roomFrom_set, HSO.out]
              have h1 := HENT.out.size
              have h2 := HZ1.out
              omega
          case measure =>
            have := HM.out
            simp [intOf]
            omega
      · have hke : k = es.length := by have := HLE.out.1; omega
        have hm2 : Mods (fun _ => False) wr (wr.alloc (.cells #[.bool false] 4)) := Mods.alloc _ _ _
        have hnew : ¬ F wr.heap.size := fun hf => by have := HE.out.co.lt _ hf; omega
        have D : Hid (Calls Try.prog 53 #[.pointer (some ⟨c, 0, none⟩), .pointer (some ⟨wr.heap.size, 0, none⟩)] (wr.alloc (.cells #[.bool false] 4)) (GP (wr.alloc (.cells #[.bool false] 4)) c F wr.heap.size (.bool false) (.wr false (out ++ be 4 (boolNum false))) (upd (fun j => #[Value.bool false][j]?) 0 (.bool false)))) := truth_gen c F (.wr false out) wr.heap.size (fun j => #[Value.bool false][j]?) 0 false _ (HE.out.co.keep hm2 fun _ _ h => h) (Blk.new wr _ _) hnew (by have := HSZ.out; omega) rfl
        clear hnew
        have hlt2 : ¬ k < es.length := hlt
        go_wp2_with fail
        refine D.out.mono ?_
        rintro e w2 ⟨F2, rfl, q1, q2, q3, q4⟩
        have E2 : Hid (EI w0 F0 c g o A e0 w2 F2 eo ec (.wr false (out ++ be 4 (boolNum false))) es) := HE.out.step q1 ((hm2.mono fun _ _ h => h.elim).trans q2) (fun j hj => by
          rcases q3 j hj with h1 | h1
          · exact .inl h1
          · exact .inr (Nat.le_trans hm2.size h1)) fun j hj hf => by
          rcases hf with hf | hf
          · exact hf
          · omega
        have hcell : w2.cell? ⟨g, o, none⟩ = some (.slice eo es.length ec) := (E2.out.bl.cell o).trans (upd_at _ _ _)
        clear D q1 q2 q3 q4 hm2 hc2 HE
        go_wp2
        (try simp only [Exit.inBlock, Exit.then])
        refine bodyPost_ret (results_none rfl _ _ _) rfl ?_
        rw [HL.out, HM.out.1, lines_stop (s := .wr false out) (t := false) (s2 := .wr false (out ++ be 4 (boolNum false))) rfl (by rw [decide_eq_false (by omega)]; rfl) rfl]
        exact ⟨rfl, F2, eo, ec, E2, by have := HSZ.out; show ((St.wr false (out ++ be 4 (boolNum false)))).size ≤ _; have h2 : (St.wr false (out ++ be 4 (boolNum false))).size = (St.wr false out).size + 4 := by simp [St.size, be_length]
                                       omega⟩
    | rd inp pos err bad =>
      obtain rfl : bad = false := HB.out.symm
      have HLE : Hid (es.length = k ∧ k ≤ 1024) := by have h := HRDD.out rfl; exact ⟨h.1, h.2.2 rfl⟩
      have hlt : ¬ k < es.length := by have := HLE.out; omega
      obtain ⟨t, pos1, err1, hrb⟩ : ∃ t p e, rbool inp pos err = (t, p, e) := ⟨_, _, _, rfl⟩
      have hst : (St.rd inp pos err false).truth false = (t, .rd inp pos1 err1 false) := by show ((rbool inp pos err).1, St.rd inp (rbool inp pos err).2.1 (rbool inp pos err).2.2 false) = _; rw [hrb]
      have HTR : Hid ((St.rd inp pos err false).truth (decide ((k : Int) < (es.length : Int))) = (t, .rd inp pos1 err1 false)) := by show _ = _; rw [decide_eq_false (by omega)]; exact hst
      have hm2 : Mods (fun _ => False) wr (wr.alloc (.cells #[.bool false] 4)) := Mods.alloc _ _ _
      have hnew : ¬ F wr.heap.size := fun hf => by have := HE.out.co.lt _ hf; omega
      have D0 := truth_gen c F (.rd inp pos err false) wr.heap.size (fun j => #[Value.bool false][j]?) 0 false _ (HE.out.co.keep hm2 fun _ _ h => h) (Blk.new wr _ _) hnew (by simp [St.size]) rfl
      rw [hst] at D0
      have D := hid D0
      clear hnew hst hrb D0
      go_wp2_with fail
      refine D.out.mono ?_
      rintro e w2 ⟨F2, rfl, q1, q2, q3, q4⟩
      have E2 : Hid (EI w0 F0 c g o A e0 w2 F2 eo ec (.rd inp pos1 err1 false) es) := HE.out.step q1 ((hm2.mono fun _ _ h => h.elim).trans q2) (fun j hj => by
        rcases q3 j hj with h1 | h1
        · exact .inl h1
        · exact .inr (Nat.le_trans hm2.size h1)) fun j hj hf => by
        rcases hf with hf | hf
        · exact hf
        · omega
      have hcell : w2.cell? ⟨g, o, none⟩ = some (.slice eo es.length ec) := (E2.out.bl.cell o).trans (upd_at _ _ _)
      clear D q1 q2 q3 q4 hm2 hc2 HE
      have hc1 : w2.cell? ⟨c, 1, none⟩ = some (.pointer none) := by
        rcases E2.out.co.c1 with ⟨h, _⟩ | ⟨_, h⟩
        · cases h
        · exact h
      cases t
      · go_wp2
        (try simp only [Exit.inBlock, Exit.then])
        refine bodyPost_ret (results_none rfl _ _ _) rfl ?_
        rw [HL.out, HM.out.1, lines_stop (s := .rd inp pos err false) rfl HTR.out rfl]
        exact ⟨rfl, F2, eo, ec, E2, by show 0 ≤ _; omega⟩
      obtain ⟨rr, rao, rcap, hcr, hF2⟩ := E2.out.co
      have hc0 := hcr.c0
      have HERR := hid (Err_any rr rao rcap inp pos1 err1 w2 hcr.rd)
      clear hcr hF2
      by_cases hz : err1 = 0
      rotate_left
      · have hz' : (err1 == 0) = false := by simpa using hz
        have HZ := hid hz'
        go_wp2_with fail
        refine HERR.out.mono ?_
        rintro e w3 ⟨rfl, rfl⟩
        clear HERR hc0 hc1
        go_wp2
        (try simp only [Exit.inBlock, Exit.then])
        refine bodyPost_ret (results_none rfl _ _ _) rfl ?_
        rw [HL.out, HM.out.1, lines_stop (s := .rd inp pos err false) rfl HTR.out (by show (!true || err1 != 0) = true; simp [hz])]
        exact ⟨rfl, F2, eo, ec, E2, by show 0 ≤ _; omega⟩
      subst hz
      go_wp2_with fail
      refine HERR.out.mono ?_
      rintro e w3 ⟨rfl, rfl⟩
      clear HERR hc0 hc1
      have HKE : Hid (k = es.length) := HLE.out.1.symm
      have heq : ((k : Int) == (es.length : Int)) = true := by have := HKE.out; rw [beq_iff_eq]; omega
      clear hlt
      go_wp2_with (at_builtin; refine wpList_appE _ rfl _ _ rfl _ _ _ es rfl rfl (E2.out.ow.keep (Mods.alloc (fun _ => False) _ _) fun _ _ h => h) _ rfl ?cb ?cl ?_)
      case cb =>
        intro j u hu
        have h := (Blk.new w2 zeroE.cells.toArray 105).cell j
        rw [List.getElem?_toArray, hu] at h
        exact h
      case cl => have := HLE.out; omega
      intro eo3 ec3 w3 ho hm hf
      obtain ⟨h1, hfz, E3⟩ := E2.out.more ho ((Mods.alloc (blk eo) _ _).trans hm) (fun j hj => (hf j hj).imp id fun h => Nat.le_trans (by simp) h)
      obtain ⟨u, hcu⟩ := Option.isSome_iff_exists.1 h1
      have D := hid (E3.must (decide ((k : Int) < 1024)))
      clear ho hm hf h1 E3
      go_wp2_with fail
      refine D.out.mono ?_
      rintro e w5 ⟨rfl, F5, E5⟩
      clear D hcu hfz hcell
      obtain ⟨e1, he1⟩ : ∃ e, e = zeroE := ⟨_, rfl⟩
      obtain ⟨es1, hes1⟩ : ∃ z, z = es ++ [zeroE] := ⟨_, rfl⟩
      obtain ⟨s1, hs1⟩ : ∃ z, z = (St.rd inp pos1 0 false).must (decide ((k : Int) < 1024)) := ⟨_, rfl⟩
      have HI : Hid (es1[k]? = some e1) := by show _ = _; rw [hes1, he1, HKE.out]; simp
      have HLL : Hid (linesAll plus es0 s0 = lines plus (es0.length + 1026 - (k + 1)) (k + 1) (es1.set k (oneLine plus s1 e1).1) (oneLine plus s1 e1).2) := by
        show _ = _
        rw [HL.out, HM.out.1, HM.out.2]
        exact lines_go (s := .rd inp pos err false) rfl HTR.out rfl (by rw [hes1]; exact if_pos HKE.out) (by rw [hs1]; exact if_pos HKE.out) HI.out
      have HL1 : Hid (es1.length = k + 1) := by show _ = _; rw [hes1, List.length_append, HLE.out.1]; rfl
      have HW1 : Hid (s1.isWr = true → k < es1.length ∧ es1.length = es0.length) := fun hw => by rw [hs1] at hw; cases hw
      have HKB : Hid ((k : Int) + 1 ≤ 9223372036854775807) := by have := HLE.out.2; show _ ≤ _; omega
      have HR1 : Hid (s1.isWr = false → es1.length = k + 1 ∧ k + 1 ≤ 1025 ∧ (s1.bad = false → k + 1 ≤ 1024)) := fun _ => ⟨HL1.out, by have := HLE.out.2; omega, fun hb => by
        rw [hs1] at hb
        simp only [St.must, St.bad, Bool.false_or, Bool.not_eq_false', decide_eq_true_eq] at hb
        omega⟩
      have HZ1 : Hid (s1.size + (e1.name.length + e1.handle.length + 150) + roomFrom (k + 1) es1 + 8 ≤ 10000000) := by
        rw [roomFrom_end (by rw [HL1.out]; exact Nat.le_refl _)]
        have h2 : s1.size = 0 := by rw [hs1]; rfl
        rw [h2, he1]
        show (0 + (0 + 0 + 150) + 0 + 8 ≤ 10000000)
        decide
      rw [← hs1, ← hes1] at E5
      have HES : Hid (es1 = es ++ [zeroE]) := hes1
      clear hs1 he1 hes1 HSZ HWR HRDD HB HLE HL HTR E2
      obtain ⟨ec1, hec⟩ : ∃ z, z = ec3 := ⟨_, rfl⟩
      subst hec
      obtain ⟨b, B, rfl, hat, hA, hT, hnm, hhd⟩ := E5.out.line HI.out
      have hcell : w5.cell? ⟨g, o, none⟩ = some (.slice (some ⟨b, 0, none⟩) es1.length ec1) := (E5.out.bl.cell o).trans (upd_at _ _ _)
      have hkl : k < es1.length := (List.getElem?_eq_some_iff.1 HI.out).1
      have HAT := hid hat; have HNM := hid hnm; have HHD := hid hhd
      obtain ⟨y0, hy0⟩ : ∃ z : X, z = (s1, B) := ⟨_, rfl⟩
      have A0 : Hid (At w5 c F5 b y0) := by rw [hy0]; exact hA
      have K0 : Hid (Ok (layAt k) 10000000 y0) := by rw [hy0]; exact ⟨hT, by have := HZ1.out; show s1.size ≤ _; omega⟩
      have G0 : Hid (GG w5 F5 b w5 F5) := GG.refl _ _ _
      have HY0 := hid hy0
      have HTY := hid hT
      clear hA hT hnm hhd hat hy0
      have hk0 : (0 : Int) ≤ (k : Int) := by omega
      have hkl' : (k : Int) < (es1.length : Int) := by omega
      go_upto_region 10 with fail
      clear hcell
      obtain ⟨y1, e1'⟩ : ∃ z, z = num1 8 .u64 (k * 20) y0 := ⟨_, rfl⟩
      have K1 : Hid (Ok (layAt k) (10000008) y1) := by rw [e1']; exact (K0.out.num8 (o := k * 20) (layAt_get (j := 0) rfl)).mono (by decide)
      have C := A0.out.u64 K0.out (by decide) (o := k * 20) 125 (layAt_get (j := 0) rfl)
      rw [← e1'] at C
      have D := hid C; have Y1 := hid e1'; clear C e1'
      go_wp2_with fail
      refine D.out.mono ?_
      rintro e wa ⟨rfl, Fa, Aa, ga⟩
      have Ga := hid (G0.out.trans ga.out); clear D ga
      obtain ⟨y2, e2'⟩ : ∃ z, z = pText 255 (k * 20 + 1) y1 := ⟨_, rfl⟩
      have K2 : Hid (Ok (layAt k) (12000016) y2) := by rw [e2']; exact (K1.out.text (o := k * 20 + 1) (by decide) (layAt_get (j := 1) rfl)).mono (by decide)
      have C := Aa.out.text K1.out (by decide) (o := k * 20 + 1) (most := 255) (layAt_get (j := 1) rfl)
      rw [← e2'] at C
      have D := hid C; have Y2 := hid e2'; clear C e2'
      go_wp2_with fail
      refine D.out.mono ?_
      rintro e wb ⟨rfl, Fb, Ab, gb⟩
      have Gb := hid (Ga.out.trans gb.out); clear D gb
      obtain ⟨y3, e3'⟩ : ∃ z, z = num1 8 .u64 (k * 20 + 2) y2 := ⟨_, rfl⟩
      have K3 : Hid (Ok (layAt k) (12000024) y3) := by rw [e3']; exact (K2.out.num8 (o := k * 20 + 2) (layAt_get (j := 2) rfl)).mono (by decide)
      have C := Ab.out.u64 K2.out (by decide) (o := k * 20 + 2) 125 (layAt_get (j := 2) rfl)
      rw [← e3'] at C
      have D := hid C; have Y3 := hid e3'; clear C e3'
      go_wp2_with fail
      refine D.out.mono ?_
      rintro e wd ⟨rfl, Fd, Ad, gd⟩
      have Gd := hid (Gb.out.trans gd.out); clear D gd
      cases plus
      · have hend : y3 = pEntry false (k * 20) (s1, B) := by rw [Y3.out, Y2.out, Y1.out, HY0.out]; rfl
        have HENT : Hid (Ok (layAt k) (s1.size + (e1.name.length + e1.handle.length + 150)) (pEntry false (k * 20) (s1, B))) := Ok.entry (x := (s1, B)) ⟨HTY.out, Nat.le_refl _⟩ false (by show (sv (B (k * 20 + 1))).length ≤ _; rw [HNM.out, sv_str]; exact Nat.le_refl _) (by show (sv (B (k * 20 + 19))).length ≤ _; rw [HHD.out, sv_str]; exact Nat.le_refl _)
        rw [hend] at Ad
        have HEN := hid (E5.out.lined HI.out HAT.out Ad.out Gd.out HENT.out)
        have HSO : Hid ((oneLine false s1 e1).2 = (pEntry false (k * 20) (s1, B)).1) := (HAT.out.put HI.out Ad.out.bl HENT.out).2.2
        have HLK : Hid (Like (oneLine false s1 e1).2 s1) := by rw [HSO.out]; exact like_pEntry _ _ _
        obtain ⟨q, hq⟩ : ∃ z, z = oneLine false s1 e1 := ⟨_, rfl⟩
        rw [← hq] at HEN HSO HLK HLL
        clear hq hend
        have hkb : (k : Int) + 1 ≤ 9223372036854775807 := HKB.out
        go_wp2
        go_roundw
        case rel =>
          refine ⟨k + 1, Fd, some ⟨b, 0, none⟩, ec1, q.2, es1.set k q.1, by go_num, HEN, HLL, fun hw => ?_, fun hw => ?_, ?_⟩
          · have h1 := HW1.out (HLK.out.1.symm.trans hw)
            exact ⟨by rw [List.length_set]; omega, by rw [List.length_set]; exact h1.2⟩
          · have h1 := HR1.out (HLK.out.1.symm.trans hw)
            refine ⟨by rw [List.length_set]; exact h1.1, by omega, fun hb => ?_⟩
            refine h1.2.2 ?_
            cases hbb : s1.bad
            · rfl
            · have h2 := worse_pEntry false (k * 20) (s1, B) hbb
              rw [← HSO.out] at h2
              rw [h2] at hb; exact hb
          · show q.2.size + roomFrom (k + 1) (es1.set k q.1) + 8 ≤ 10000000
            rw [roomFrom_set, HSO.out]
            have h1 := HENT.out.size
            have h2 := HZ1.out
            omega
        case measure =>
          have := HM.out
          simp [intOf]
          omega
      · obtain ⟨y4, e4'⟩ : ∃ z, z = pPost (k * 20 + 3) y3 := ⟨_, rfl⟩
        have K4 : Hid (Ok (layAt k) (12000112) y4) := by rw [e4']; exact (K3.out.post (o := k * 20 + 3) layAt_post).mono (by decide)
        have C := post_gen c Fd b y3 (layAt k) 12000024 (k * 20 + 3) wd Ad.out K3.out (by decide) layAt_post
        rw [← e4'] at C
        have D := hid C; have Y4 := hid e4'; clear C e4'
        go_wp2_with fail
        refine D.out.mono ?_
        rintro e wf ⟨rfl, Ff, Af, gf⟩
        have Gf := hid (Gd.out.trans gf.out); clear D gf
        obtain ⟨y5, e5'⟩ : ∃ z, z = pHandle (k * 20 + 18) (k * 20 + 19) y4 := ⟨_, rfl⟩
        have C := fun w' (hm : Mods (fun _ => False) wf w') => handle_gen c Ff b y4 (layAt k) 12000112 (k * 20 + 18) (k * 20 + 19) w' (Af.out.keep hm) K4.out (by decide) (layAt_get (j := 18) rfl) (layAt_get (j := 19) rfl)
        rw [← e5'] at C
        have D := hid C; have Y5 := hid e5'; clear C e5'
        go_wp2_with fail
        go_region_with (refine (D.out _ (Mods.drew _ _)).mono ?_; rintro e wh ⟨rfl, Fh, Ah, gh⟩; have Gh := hid (Gf.out.trans ((GG.new b (Mods.drew _ _)).trans gh.out)); clear D gh)
        have hend : y5 = pEntry true (k * 20) (s1, B) := by rw [Y5.out, Y4.out, Y3.out, Y2.out, Y1.out, HY0.out]; rfl
        have HENT : Hid (Ok (layAt k) (s1.size + (e1.name.length + e1.handle.length + 150)) (pEntry true (k * 20) (s1, B))) := Ok.entry (x := (s1, B)) ⟨HTY.out, Nat.le_refl _⟩ true (by show (sv (B (k * 20 + 1))).length ≤ _; rw [HNM.out, sv_str]; exact Nat.le_refl _) (by show (sv (B (k * 20 + 19))).length ≤ _; rw [HHD.out, sv_str]; exact Nat.le_refl _)
        rw [hend] at Ah
        have HEN := hid (E5.out.lined HI.out HAT.out Ah.out Gh.out HENT.out)
        have HSO : Hid ((oneLine true s1 e1).2 = (pEntry true (k * 20) (s1, B)).1) := (HAT.out.put HI.out Ah.out.bl HENT.out).2.2
        have HLK : Hid (Like (oneLine true s1 e1).2 s1) := by rw [HSO.out]; exact like_pEntry _ _ _
        obtain ⟨q, hq⟩ : ∃ z, z = oneLine true s1 e1 := ⟨_, rfl⟩
        rw [← hq] at HEN HSO HLK HLL
        clear hq hend
        have hkb : (k : Int) + 1 ≤ 9223372036854775807 := HKB.out
        go_wp2
        go_roundw
        case rel =>
          refine ⟨k + 1, Fh, some ⟨b, 0, none⟩, ec1, q.2, es1.set k q.1, by go_num, HEN, HLL, fun hw => ?_, fun hw => ?_, ?_⟩
          · have h1 := HW1.out (HLK.out.1.symm.trans hw)
            exact ⟨by rw [List.length_set]; omega, by rw [List.length_set]; exact h1.2⟩
          · have h1 := HR1.out (HLK.out.1.symm.trans hw)
            refine ⟨by rw [List.length_set]; exact h1.1, by omega, fun hb => ?_⟩
            refine h1.2.2 ?_
            cases hbb : s1.bad
            · rfl
            · have h2 := worse_pEntry true (k * 20) (s1, B) hbb
              rw [← HSO.out] at h2
              rw [h2] at hb; exact hb
          · show q.2.size + roomFrom (k + 1) (es1.set k q.1) + 8 ≤ 10000000
            rw [roomFrom_set, HSO.out]
            have h1 := HENT.out.size
            have h2 := HZ1.out
            omega
        case measure =>
          have := HM.out
          simp [intOf]
          omega


end Go.Proofs.Ytanknjpcgceccaa
