/- The reference's Out: num, text. -/
import Derived.Test.YtanknjpcgceccaaRo1
namespace Go.Proofs.Ytanknjpcgceccaa
open Go.RowKit

theorem wrap_u32_id {v : Int} (h : ¬ v < 0) (h2 : ¬ 4294967296 ≤ v) : IntKind.u32.wrap v = v := by rw [IntKind.wrap_u32]; omega

set_option maxRecDepth 100000 in
set_option maxHeartbeats 1000000 in
theorem num_out (c p : Nat) (F : Nat → Prop) (g : Nat) (x : X) (v : Int) (w : World) (h : OAt w c p F g x) (hk : x.1.size + 4 ≤ 1000000) :
    Calls Try.prog 67 #[.pointer (some ⟨c, 0, none⟩), .int .i64 v] w (OQ w c p F g ((x.1.number 0 4294967295 v).2, x.2)) := by
  obtain ⟨s, A⟩ := x
  obtain ⟨bad, out, ao, cap, hs, how, rfl⟩ := h.co
  simp only at hs
  subst hs
  have hsz : out.length + 4 ≤ 1000000 := hk
  show Calls _ _ _ _ (OQ w c p (FC c p ao) g (.wr (bad || !decide (0 ≤ v ∧ v ≤ 4294967295)) (out ++ be 4 (IntKind.u32.wrap v)), A))
  have hc0 := how.c0; have hc1 := how.c1; have hf1 := how.f1
  have HB := hid h.bl; have HA := hid h.ap; have HO := hid how
  have hwr := wrap_u32_range v
  obtain ⟨b0, hb0⟩ : ∃ b0, b0 = (bad || !decide (0 ≤ v ∧ v ≤ 4294967295)) := ⟨_, rfl⟩
  rw [← hb0]
  have hset := how.set1 b0
  have hms : Mods (fun k => k = c) w (w.setCell ⟨c, 1, none⟩ (.bool b0)) := Mods.setCell (F := fun k => k = c) (a := ⟨c, 1, none⟩) rfl _
  have hgc : g ≠ c := fun e => h.ap (.inl e)
  have hb2 := h.bl.keep hms hgc
  have HC := hid (RU32_any p ao cap out (IntKind.u32.wrap v) _ hset.wr (by omega) ⟨hwr.1, hwr.2⟩)
  have HS := hid hset; have HB2 := hid hb2
  have HG1 := hid (GG.mk (F := FC c p ao) (g := g) (w := w) (w' := w.setCell ⟨c, 1, none⟩ (.bool b0)) (F' := FC c p ao) (hms.mono fun k _ e => .inl (.inl e)) fun _ h => .inl h)
  have hcs0 := hset.c0
  have hcase : (bad = true ∧ b0 = true) ∨ (bad = false ∧ v < 0 ∧ b0 = true) ∨ (bad = false ∧ ¬ v < 0 ∧ 4294967296 ≤ v ∧ b0 = true) ∨ (bad = false ∧ ¬ v < 0 ∧ ¬ 4294967296 ≤ v ∧ b0 = false) := by
    cases bad
    · by_cases h1 : v < 0
      · exact .inr (.inl ⟨rfl, h1, by rw [hb0, decide_eq_false (by omega)]; rfl⟩)
      · by_cases h2 : 4294967296 ≤ v
        · exact .inr (.inr (.inl ⟨rfl, h1, h2, by rw [hb0, decide_eq_false (by omega)]; rfl⟩))
        · exact .inr (.inr (.inr ⟨rfl, h1, h2, by rw [hb0, decide_eq_true (by omega)]; rfl⟩))
    · exact .inl ⟨rfl, by rw [hb0]; rfl⟩
  clear hb0 hset hms hgc hb2 h hk how hwr
  rcases hcase with ⟨rfl, rfl⟩ | ⟨rfl, h1, rfl⟩ | ⟨rfl, h1, h2, rfl⟩ | ⟨rfl, h1, h2, rfl⟩
  rotate_left 3
  · have hwv := wrap_u32_id h1 h2
    rw [hwv] at HC ⊢
    clear hwv
    go_enter Try.func67, Try.ntmps67
    go_wp2_with fail
    refine HC.out.mono ?_
    rintro e w1 ⟨ao1, cap1, rfl, hw1, hg1⟩
    obtain ⟨F', q1, q2⟩ := OAt.wrote HS.out HB2.out HA.out hw1 hg1
    clear hw1 hg1 HC
    go_wp2
    go_end0
    exact ⟨rfl, F', q1, HG1.out.trans q2.out⟩
  all_goals
    go_enter Try.func67, Try.ntmps67
    go_wp2_with fail
    refine HC.out.mono ?_
    rintro e w1 ⟨ao1, cap1, rfl, hw1, hg1⟩
    obtain ⟨F', q1, q2⟩ := OAt.wrote HS.out HB2.out HA.out hw1 hg1
    clear hw1 hg1 HC
    go_wp2
    go_end0
    exact ⟨rfl, F', q1, HG1.out.trans q2.out⟩

set_option maxRecDepth 100000 in
set_option maxHeartbeats 1000000 in
theorem text_out (c p : Nat) (F : Nat → Prop) (g : Nat) (x : X) (bs : List UInt8) (most : Int) (w : World) (h : OAt w c p F g x) (hk : x.1.size + bs.length + 8 ≤ 1000000) :
    Calls Try.prog 38 #[.pointer (some ⟨c, 0, none⟩), .string (str bs), .int .i64 most] w (OQ w c p F g ((x.1.row most bs).2, x.2)) := by
  obtain ⟨s, A⟩ := x
  obtain ⟨bad, out, ao, cap, hs, how, rfl⟩ := h.co
  simp only at hs
  subst hs
  have hsz : out.length + bs.length + 8 ≤ 1000000 := hk
  show Calls _ _ _ _ (OQ w c p (FC c p ao) g (.wr (bad || !decide ((bs.length : Int) ≤ most)) (out ++ row bs), A))
  have hc0 := how.c0; have hc1 := how.c1; have hf1 := how.f1
  have HA := hid h.ap
  obtain ⟨b0, hb0⟩ : ∃ b0, b0 = (bad || !decide ((bs.length : Int) ≤ most)) := ⟨_, rfl⟩
  rw [← hb0]
  have hset := how.set1 b0
  have hms : Mods (fun k => k = c) w (w.setCell ⟨c, 1, none⟩ (.bool b0)) := Mods.setCell (F := fun k => k = c) (a := ⟨c, 1, none⟩) rfl _
  have hgc : g ≠ c := fun e => h.ap (.inl e)
  have hb2 := h.bl.keep hms hgc
  obtain ⟨cp, ob, heq, hsl⟩ := conv_sb bs (w.setCell ⟨c, 1, none⟩ (.bool b0))
  have hcs0 := hset.c0
  have HS := hid hset; have HB2 := hid hb2
  have hsize : (str bs).size = bs.length := rfl
  have HG1 := hid (GG.mk (F := FC c p ao) (g := g) (w := w) (w' := w.setCell ⟨c, 1, none⟩ (.bool b0)) (F' := FC c p ao) (hms.mono fun k _ e => .inl (.inl e)) fun _ h => .inl h)
  have hhz : (w.setCell ⟨c, 1, none⟩ (.bool b0)).heap.size = w.heap.size := by simp
  rw [hhz] at heq hsl
  clear hhz
  have hsl' : SlB (((w.setCell ⟨c, 1, none⟩ (.bool b0)).alloc ob).drew) (some ⟨w.heap.size, 0, none⟩) cp bs := hsl
  have HSL := hid hsl'
  have HM1 := hid (show Mods (fun _ => False) (w.setCell ⟨c, 1, none⟩ (.bool b0)) (((w.setCell ⟨c, 1, none⟩ (.bool b0)).alloc ob).drew) from (Mods.alloc _ _ _).trans (Mods.drew _ _))
  have HLT := hid h.co.lt
  have hcase : (bad = true ∧ b0 = true) ∨ (bad = false ∧ most < (bs.length : Int) ∧ b0 = true) ∨ (bad = false ∧ ¬ most < (bs.length : Int) ∧ b0 = false) := by
    cases bad
    · by_cases h2 : most < (bs.length : Int)
      · exact .inr (.inl ⟨rfl, h2, by rw [hb0, decide_eq_false (by omega)]; rfl⟩)
      · exact .inr (.inr ⟨rfl, h2, by rw [hb0, decide_eq_true (by omega)]; rfl⟩)
    · exact .inl ⟨rfl, by rw [hb0]; rfl⟩
  clear hb0 hset hms hgc hb2 h hk how hsl hsl'
  rcases hcase with ⟨rfl, rfl⟩ | ⟨rfl, h2, rfl⟩ | ⟨rfl, h2, rfl⟩
  all_goals
    go_enter Try.func38, Try.ntmps38
    go_wp2_with fail
    have how1 := HS.out.keep HM1.out (fun h => h) (fun h => h) (fun _ _ h => h)
    have hrb := RBytes_any p ao cap out (some ⟨w.heap.size, 0, none⟩) cp bs _ how1.wr (by omega) HSL.out (fun k hk => by
      have hk' : w.heap.size = k := hk.2
      subst hk'
      exact ⟨fun e => by have := HLT.out p (.inr (.inl rfl)); omega, fun hb => by have := HLT.out _ (.inr (.inr hb)); omega⟩)
    refine hrb.mono ?_
    rintro e w1 ⟨ao1, cap1, rfl, hw1, hg1⟩
    obtain ⟨F', q1, q2⟩ := OAt.wrote how1 (HB2.out.keep HM1.out fun h => h) HA.out hw1 hg1
    have q3 := hid (HG1.out.trans ((GG.new g HM1.out).trans q2.out))
    clear hw1 hg1 hrb how1 q2
    go_wp2
    go_end0
    exact ⟨rfl, F', q1, q3.out⟩

/-! ### What the writer's calls do to a state -/
theorem wr_u32 {s : St} {v : Int} (hs : s.size ≤ 1000000) (hr : 0 ≤ v ∧ v < 4294967296) (p : Nat) : ∀ w' ao cap bad out, s = .wr bad out → WR w' p ao cap out → Calls Try.prog 42 #[.pointer (some ⟨p, 0, none⟩), .int .u32 v] w' (fun e w2 => ∃ bs, (s.num 4 v).2 = .wr bad bs ∧ WPost w' p ao bs e w2) := by
  rintro w' ao cap bad out rfl hw
  exact (RU32_any p ao cap out v w' hw hs hr).mono fun e w2 h => ⟨_, rfl, h⟩
theorem wr_u64 {s : St} {v : Int} (hs : s.size ≤ 1000000) (hr : 0 ≤ v ∧ v < 18446744073709551616) (p : Nat) : ∀ w' ao cap bad out, s = .wr bad out → WR w' p ao cap out → Calls Try.prog 43 #[.pointer (some ⟨p, 0, none⟩), .int .u64 v] w' (fun e w2 => ∃ bs, (s.num 8 v).2 = .wr bad bs ∧ WPost w' p ao bs e w2) := by
  rintro w' ao cap bad out rfl hw
  exact (RU64_any p ao cap out v w' hw hs hr).mono fun e w2 h => ⟨_, rfl, h⟩
theorem wr_bool {s : St} {v : Bool} (hs : s.size ≤ 1000000) (p : Nat) : ∀ w' ao cap bad out, s = .wr bad out → WR w' p ao cap out → Calls Try.prog 40 #[.pointer (some ⟨p, 0, none⟩), .bool v] w' (fun e w2 => ∃ bs, (s.truth v).2 = .wr bad bs ∧ WPost w' p ao bs e w2) := by
  rintro w' ao cap bad out rfl hw
  exact (RBool_any p ao cap out v w' hw hs).mono fun e w2 h => ⟨_, rfl, h⟩

section
variable {d : Nat} {ts : Array TypeId} {y : TypeId} {s : String} {e : Array Edge}
theorem enter_u32 (a : Act) (w : World) (v1 v2 : Value) (h1 : a.eval (.tmp (d + 3)) = v1) (h2 : a.eval (.tmp (d + 5)) = v2) :
    (execOp a.eval ⟨some (d + 6), .call { callee := .value (.func 42), args := #[.tmp (d + 3), .tmp (d + 5)], argTypes := ts }, y, s, e, none⟩).run Try.prog w = .ok (.enter 42 #[v1, v2]) w := by
  have h0 : a.eval (.func 42) = .func (.func 42) #[] #[] := rfl
  generalize d + 3 = d3 at *
  generalize d + 5 = d5 at *
  go_simp
  exact ⟨by rw [← Array.getD_eq_getD_getElem?]; exact h1, by rw [← Array.getD_eq_getD_getElem?]; exact h2⟩
theorem enter_u64 (a : Act) (w : World) (v1 v2 : Value) (h1 : a.eval (.tmp (d + 3)) = v1) (h2 : a.eval (.tmp (d + 5)) = v2) :
    (execOp a.eval ⟨some (d + 6), .call { callee := .value (.func 43), args := #[.tmp (d + 3), .tmp (d + 5)], argTypes := ts }, y, s, e, none⟩).run Try.prog w = .ok (.enter 43 #[v1, v2]) w := by
  have h0 : a.eval (.func 43) = .func (.func 43) #[] #[] := rfl
  generalize d + 3 = d3 at *
  generalize d + 5 = d5 at *
  go_simp
  exact ⟨by rw [← Array.getD_eq_getD_getElem?]; exact h1, by rw [← Array.getD_eq_getD_getElem?]; exact h2⟩
theorem enter_bool (a : Act) (w : World) (v1 v2 : Value) (h1 : a.eval (.tmp (d + 3)) = v1) (h2 : a.eval (.tmp (d + 5)) = v2) :
    (execOp a.eval ⟨some (d + 6), .call { callee := .value (.func 40), args := #[.tmp (d + 3), .tmp (d + 5)], argTypes := ts }, y, s, e, none⟩).run Try.prog w = .ok (.enter 40 #[v1, v2]) w := by
  have h0 : a.eval (.func 40) = .func (.func 40) #[] #[] := rfl
  generalize d + 3 = d3 at *
  generalize d + 5 = d5 at *
  go_simp
  exact ⟨by rw [← Array.getD_eq_getD_getElem?]; exact h1, by rw [← Array.getD_eq_getD_getElem?]; exact h2⟩
end

end Go.Proofs.Ytanknjpcgceccaa
