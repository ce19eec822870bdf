/- nfsx's coder: u32, u64, whether it reads or writes. (Printed by wip/tools/gen_gen2.py.) -/
import Derived.Test.YtanknjpcgceccaaGen1
namespace Go.Proofs.Ytanknjpcgceccaa
open Go.RowKit

def iv : Option Value → Int
  | some (.int _ n) => n
  | _ => 0
abbrev Cells := Nat → Option Value
/-- One number. -/
def num1 (n : Nat) (k : IntKind) (o : Nat) (x : St × Cells) : St × Cells := let r := x.1.num n (iv (x.2 o)); (r.2, upd x.2 o (.int k r.1))
/-- Numbers, one behind the other. -/
def nums (n : Nat) (k : IntKind) (os : List Nat) (x : St × Cells) : St × Cells := os.foldl (fun x o => num1 n k o x) x
def IntAt (k : IntKind) (n : Nat) (A : Cells) (o : Nat) : Prop := ∃ v : Int, A o = some (.int k v) ∧ 0 ≤ v ∧ v < ((256 ^ n : Nat) : Int)
theorem num_range (s : St) (n : Nat) (v : Int) (h : 0 ≤ v ∧ v < ((256 ^ n : Nat) : Int)) : 0 ≤ (s.num n v).1 ∧ (s.num n v).1 < ((256 ^ n : Nat) : Int) := by
  cases s with
  | wr b out => exact h
  | rd inp pos err b =>
    simp only [St.num, rnum]
    have hp : 0 < 256 ^ n := Nat.pow_pos (by decide)
    split
    · split
      · have h1 := beval_lt ((inp.drop pos).take n)
        have h2 : 256 ^ ((inp.drop pos).take n).length ≤ 256 ^ n := Nat.pow_le_pow_right (by decide) (by simp; omega)
        refine ⟨by simp, ?_⟩
        have h3 : beval ((inp.drop pos).take n) < 256 ^ n := Nat.lt_of_lt_of_le h1 h2
        exact Int.ofNat_lt.2 h3
      · exact ⟨by simp, Int.ofNat_lt.2 hp⟩
    · exact ⟨by simp, Int.ofNat_lt.2 hp⟩
theorem IntAt.upd {k : IntKind} {n : Nat} {A : Cells} {o : Nat} (h : IntAt k n A o) {o' : Nat} {v : Int} (hv : 0 ≤ v ∧ v < ((256 ^ n : Nat) : Int)) : IntAt k n (upd A o' (.int k v)) o := by
  by_cases e : o = o'
  · subst e; exact ⟨v, upd_at _ _ _, hv⟩
  · obtain ⟨u, h1, h2⟩ := h; exact ⟨u, by rw [upd_ne _ _ e]; exact h1, h2⟩
theorem IntAt.iv {k : IntKind} {n : Nat} {A : Cells} {o : Nat} (h : IntAt k n A o) : A o = some (.int k (iv (A o))) ∧ 0 ≤ iv (A o) ∧ iv (A o) < ((256 ^ n : Nat) : Int) := by
  obtain ⟨v, h1, h2⟩ := h
  rw [h1]; exact ⟨rfl, h2⟩
theorem nums_typed {k : IntKind} {n : Nat} (os : List Nat) : ∀ (x : St × Cells), (∀ o ∈ os, IntAt k n x.2 o) → ∀ o, IntAt k n x.2 o → IntAt k n (nums n k os x).2 o := by
  induction os with
  | nil => intro x _ o h; exact h
  | cons a os ih =>
    intro x h o ho
    have ha := (h a (by simp)).iv.2
    refine ih (num1 n k a x) (fun o' ho' => (h o' (by simp [ho'])).upd (num_range _ _ _ ha)) o (ho.upd (num_range _ _ _ ha))
theorem nums_snoc (n : Nat) (k : IntKind) (os : List Nat) (o : Nat) (x : St × Cells) : nums n k (os ++ [o]) x = num1 n k o (nums n k os x) := by simp [nums]
theorem nums_wr {k : IntKind} {n : Nat} {bad : Bool} (os : List Nat) : ∀ (out : List UInt8) (A : Cells), (∀ o ∈ os, IntAt k n A o) → nums n k os (.wr bad out, A) = (.wr bad (out ++ bes n (os.map fun o => iv (A o))), A) := by
  induction os with
  | nil => intro out A _; simp [nums, bes]
  | cons a os ih =>
    intro out A h
    have ha := (h a (by simp)).iv.1
    have h1 : num1 n k a (.wr bad out, A) = (.wr bad (out ++ be n (iv (A a))), A) := by
      simp only [num1, St.num]
      rw [upd_self ha]
    show nums n k os (num1 n k a (.wr bad out, A)) = _
    rw [h1, ih _ _ fun o ho => h o (by simp [ho])]
    simp [bes, List.append_assoc]
theorem CO.of_c {w w' : World} {c p : Nat} {ao ao' : Option Addr} {cap cap' : Nat} {bad bad' : Bool} {bs bs' : List UInt8} {g : Nat} {A : Cells} (h : CW w c p ao cap bad bs) (h1 : CW w' c p ao' cap' bad' bs') (h2 : CGrew w c p ao w' ao') (hb : Blk w g A) (hg : ¬ FC c p ao g) :
    ∃ F', CO w' c F' (.wr bad' bs') ∧ GG w (FC c p ao) g w' F' ∧ Blk w' g A :=
  ⟨FC c p ao', ⟨p, ao', cap', h1, rfl⟩, ⟨h2.mods.mono fun _ _ h => .inl h, fun k hk => by
      rcases hk with rfl | rfl | hk
      · exact .inl (.inl rfl)
      · exact .inl (.inr (.inl rfl))
      · exact (h2.fresh k hk).imp (fun h => .inr (.inr h)) id⟩, hb.keep h2.mods hg⟩

set_option maxRecDepth 100000 in
set_option maxHeartbeats 2000000 in
theorem u32r_any (c r : Nat) (ao : Option Addr) (cap : Nat) (inp : List UInt8) (pos : Nat) (err : Int) (bad : Bool) (g : Nat) (A : Cells) (lo : Option Addr) (lc : Nat) (os : List Nat) (w : World) (h : CR w c r ao cap inp pos err bad) (hb : Blk w g A) (hg : ¬ FR c r ao inp.length g)
    (hlen : os.length ≤ 1000) (hv : ∀ o ∈ os, IntAt .u32 4 A o) (hl : Sl w 1 lo os.length lc (os.map fun o => .pointer (some ⟨g, o, none⟩))) (hd : ∀ k, rb lo os.length k → ¬ FR c r ao inp.length k ∧ k ≠ g) :
    Calls Try.prog 55 #[.pointer (some ⟨c, 0, none⟩), .slice lo os.length lc] w fun e w' => ∃ pos' err' A', e = .returned (.tuple #[]) ∧ nums 4 .u32 os (.rd inp pos err bad, A) = (.rd inp pos' err' bad, A') ∧ CR w' c r ao cap inp pos' err' bad ∧ Blk w' g A' ∧ Mods (fun k => k = r ∨ k = g) w w' := by
  have H := hid h; have HB := hid hb; have HG := hid hg; have HV := hid hv; have HL := hid hl; have HD := hid hd; clear h hb hg hv hl hd
  go_enter Try.func55, Try.ntmps55
  go_wp2
  go_loopw [8] (fun i wr => ∃ (k pos' : Nat) (err' : Int) (A' : Cells), k ≤ os.length ∧ i = .int .i64 (k : Int) ∧ Hid (nums 4 .u32 (os.take k) (.rd inp pos err bad, A) = (.rd inp pos' err' bad, A')) ∧ Hid (CR wr c r ao cap inp pos' err' bad) ∧ Hid (Blk wr g A') ∧ Hid (Mods (fun k => k = r ∨ k = g) w wr)) (fun i _ => os.length - (intOf i).toNat)
  case atStart => exact ⟨0, pos, err, A, by omega, by go_num, rfl, H.out, HB.out, Mods.refl _ _⟩
  case round =>
    obtain ⟨k, pos', err', A', hk, rfl, hnum, hcr, hbl, hm⟩ := hrel
    by_cases hlt : k < os.length
    · have HC : Hid (∃ b o, lo = some ⟨b, o, none⟩ ∧ wr.cell? ⟨b, o + k, none⟩ = some (.pointer (some ⟨g, os[k], none⟩))) := by
        obtain ⟨b, o, h1, h2⟩ := (HL.out.keep hm.out (fun k hk hf => by
          rcases hf with rfl | rfl
          · exact (HD.out k hk).1 (.inr (.inl rfl))
          · exact (HD.out k hk).2 rfl)).at (j := k) (by simpa using hlt)
        exact ⟨b, o, h1, by simpa using h2⟩
      have HT : Hid (IntAt .u32 4 A' os[k]) := by
        have := nums_typed (os.take k) (.rd inp pos err bad, A) (fun o ho => HV.out o (List.mem_of_mem_take ho)) os[k] (HV.out _ (by simp))
        rw [hnum.out] at this
        exact this
      have HS : Hid (nums 4 .u32 (os.take (k + 1)) (.rd inp pos err bad, A) = num1 4 .u32 os[k] (.rd inp pos' err' bad, A')) := by
        rw [List.take_succ_eq_append_getElem hlt, nums_snoc, hnum.out]; rfl
      obtain ⟨b, o, rfl, hcell⟩ := HC.out
      obtain ⟨q, hq⟩ : ∃ q, q = os[k] := ⟨_, rfl⟩
      rw [← hq] at hcell HT HS
      have hc0 := hcr.out.c0
      have hc1 := hcr.out.c1
      clear hq HC hnum
      have HCALL := hid (RDU32_any r ao cap inp pos' err' wr hcr.out.rd)
      go_wp2_with fail
      refine HCALL.out.mono ?_
      rintro e w2 ⟨rfl, hr, hm2⟩
      have hgr : g ≠ r := fun e => HG.out (.inr (.inl e))
      have hb2 : Blk w2 g A' := hbl.out.keep hm2 hgr
      have hcell2 : w2.cell? ⟨g, q, none⟩ = some (.int .u32 (iv (A' q))) := (hb2.cell q).trans HT.out.iv.1
      have hfree2 := hb2.free q
      have hset := hid (hb2.set HT.out.iv.1 (.int .u32 (rnum 4 inp pos' err').1))
      have hms : Mods (fun k => k = g) w2 (w2.setCell ⟨g, q, none⟩ (.int .u32 (rnum 4 inp pos' err').1)) := Mods.setCell (F := fun k => k = g) (a := ⟨g, q, none⟩) rfl _
      have hcr3 := hid ((hcr.out.read hr hm2).keep hms (fun k hk e => HG.out (e ▸ hk)))
      have hm3 := hid (hm.out.trans ((hm2.mono fun _ _ h => .inl h).trans (hms.mono fun _ _ h => .inr h)))
      have hnum3 : Hid (nums 4 .u32 (os.take (k + 1)) (.rd inp pos err bad, A) = (.rd inp (rnum 4 inp pos' err').2.1 (rnum 4 inp pos' err').2.2 bad, upd A' q (.int .u32 (rnum 4 inp pos' err').1))) := HS.out
      clear HS HCALL hr hm2 hb2 hms hcr hbl hm hcell hc0 hc1 HT
      go_wp2
      go_roundw
      case rel => exact ⟨k + 1, _, _, _, by omega, by go_num, hnum3, hcr3, hset, hm3⟩
      case measure => simp [intOf]; omega
    · have hkn : os.take k = os := List.take_of_length_le (by omega)
      rw [hkn] at hnum
      clear hkn
      go_wp2
      go_end0
      exact ⟨pos', err', A', rfl, hnum.out, hcr.out, hbl.out, hm.out⟩

theorem u32_gen (c : Nat) (F : Nat → Prop) (s : St) (g : Nat) (A : Cells) (lo : Option Addr) (lc : Nat) (os : List Nat) (w : World) (h : CO w c F s) (hb : Blk w g A) (hg : ¬ F g) (hlen : s.size + 4 * os.length ≤ 20000000) (hn : os.length ≤ 1000)
    (hv : ∀ o ∈ os, IntAt .u32 4 A o) (hl : Sl w 1 lo os.length lc (os.map fun o => .pointer (some ⟨g, o, none⟩))) (hd : ∀ k, rb lo os.length k → ¬ F k ∧ k ≠ g) :
    Calls Try.prog 55 #[.pointer (some ⟨c, 0, none⟩), .slice lo os.length lc] w (GP w c F g (.tuple #[]) (nums 4 .u32 os (s, A)).1 (nums 4 .u32 os (s, A)).2) := by
  cases s with
  | wr bad out =>
    obtain ⟨p, ao, cap, h, rfl⟩ := h
    rw [nums_wr os out A hv]
    have hc := u32w_any c p ao cap bad out lo lc (os.map fun o => (⟨g, o, none⟩, iv (A o))) w h (by simpa [St.size] using hlen) (by
      intro x hx
      obtain ⟨o, ho, rfl⟩ := List.mem_map.1 hx
      exact (hv o ho).iv.2) (by
      rw [List.map_map, List.length_map]; exact hl) (by rw [List.length_map]; exact fun k hk => (hd k hk).1) (by
      intro x hx
      obtain ⟨o, ho, rfl⟩ := List.mem_map.1 hx
      exact ⟨(hb.cell o).trans (hv o ho).iv.1, hg⟩)
    rw [List.length_map, List.map_map] at hc
    refine hc.mono ?_
    rintro e w' ⟨ao', cap', rfl, h1, h2⟩
    obtain ⟨F', k1, k2, k3⟩ := CO.of_c h h1 h2 hb hg
    exact GP.mk k1 k2 k3
  | rd inp pos err bad =>
    obtain ⟨r, ao, cap, h, rfl⟩ := h
    refine (u32r_any c r ao cap inp pos err bad g A lo lc os w h hb hg hn hv hl hd).mono ?_
    rintro e w' ⟨pos', err', A', rfl, he, h1, h2, h3⟩
    rw [he]
    exact GP.mk (F' := FR c r ao inp.length) ⟨r, ao, cap, h1, rfl⟩ ⟨h3.mono fun _ _ h => h.imp (fun e => .inr (.inl e)) id, fun _ h => .inl h⟩ h2

set_option maxRecDepth 100000 in
set_option maxHeartbeats 2000000 in
theorem u64r_any (c r : Nat) (ao : Option Addr) (cap : Nat) (inp : List UInt8) (pos : Nat) (err : Int) (bad : Bool) (g : Nat) (A : Cells) (lo : Option Addr) (lc : Nat) (os : List Nat) (w : World) (h : CR w c r ao cap inp pos err bad) (hb : Blk w g A) (hg : ¬ FR c r ao inp.length g)
    (hlen : os.length ≤ 1000) (hv : ∀ o ∈ os, IntAt .u64 8 A o) (hl : Sl w 1 lo os.length lc (os.map fun o => .pointer (some ⟨g, o, none⟩))) (hd : ∀ k, rb lo os.length k → ¬ FR c r ao inp.length k ∧ k ≠ g) :
    Calls Try.prog 56 #[.pointer (some ⟨c, 0, none⟩), .slice lo os.length lc] w fun e w' => ∃ pos' err' A', e = .returned (.tuple #[]) ∧ nums 8 .u64 os (.rd inp pos err bad, A) = (.rd inp pos' err' bad, A') ∧ CR w' c r ao cap inp pos' err' bad ∧ Blk w' g A' ∧ Mods (fun k => k = r ∨ k = g) w w' := by
  have H := hid h; have HB := hid hb; have HG := hid hg; have HV := hid hv; have HL := hid hl; have HD := hid hd; clear h hb hg hv hl hd
  go_enter Try.func56, Try.ntmps56
  go_wp2
  go_loopw [8] (fun i wr => ∃ (k pos' : Nat) (err' : Int) (A' : Cells), k ≤ os.length ∧ i = .int .i64 (k : Int) ∧ Hid (nums 8 .u64 (os.take k) (.rd inp pos err bad, A) = (.rd inp pos' err' bad, A')) ∧ Hid (CR wr c r ao cap inp pos' err' bad) ∧ Hid (Blk wr g A') ∧ Hid (Mods (fun k => k = r ∨ k = g) w wr)) (fun i _ => os.length - (intOf i).toNat)
  case atStart => exact ⟨0, pos, err, A, by omega, by go_num, rfl, H.out, HB.out, Mods.refl _ _⟩
  case round =>
    obtain ⟨k, pos', err', A', hk, rfl, hnum, hcr, hbl, hm⟩ := hrel
    by_cases hlt : k < os.length
    · have HC : Hid (∃ b o, lo = some ⟨b, o, none⟩ ∧ wr.cell? ⟨b, o + k, none⟩ = some (.pointer (some ⟨g, os[k], none⟩))) := by
        obtain ⟨b, o, h1, h2⟩ := (HL.out.keep hm.out (fun k hk hf => by
          rcases hf with rfl | rfl
          · exact (HD.out k hk).1 (.inr (.inl rfl))
          · exact (HD.out k hk).2 rfl)).at (j := k) (by simpa using hlt)
        exact ⟨b, o, h1, by simpa using h2⟩
      have HT : Hid (IntAt .u64 8 A' os[k]) := by
        have := nums_typed (os.take k) (.rd inp pos err bad, A) (fun o ho => HV.out o (List.mem_of_mem_take ho)) os[k] (HV.out _ (by simp))
        rw [hnum.out] at this
        exact this
      have HS : Hid (nums 8 .u64 (os.take (k + 1)) (.rd inp pos err bad, A) = num1 8 .u64 os[k] (.rd inp pos' err' bad, A')) := by
        rw [List.take_succ_eq_append_getElem hlt, nums_snoc, hnum.out]; rfl
      obtain ⟨b, o, rfl, hcell⟩ := HC.out
      obtain ⟨q, hq⟩ : ∃ q, q = os[k] := ⟨_, rfl⟩
      rw [← hq] at hcell HT HS
      have hc0 := hcr.out.c0
      have hc1 := hcr.out.c1
      clear hq HC hnum
      have HCALL := hid (RDU64_any r ao cap inp pos' err' wr hcr.out.rd)
      go_wp2_with fail
      refine HCALL.out.mono ?_
      rintro e w2 ⟨rfl, hr, hm2⟩
      have hgr : g ≠ r := fun e => HG.out (.inr (.inl e))
      have hb2 : Blk w2 g A' := hbl.out.keep hm2 hgr
      have hcell2 : w2.cell? ⟨g, q, none⟩ = some (.int .u64 (iv (A' q))) := (hb2.cell q).trans HT.out.iv.1
      have hfree2 := hb2.free q
      have hset := hid (hb2.set HT.out.iv.1 (.int .u64 (rnum 8 inp pos' err').1))
      have hms : Mods (fun k => k = g) w2 (w2.setCell ⟨g, q, none⟩ (.int .u64 (rnum 8 inp pos' err').1)) := Mods.setCell (F := fun k => k = g) (a := ⟨g, q, none⟩) rfl _
      have hcr3 := hid ((hcr.out.read hr hm2).keep hms (fun k hk e => HG.out (e ▸ hk)))
      have hm3 := hid (hm.out.trans ((hm2.mono fun _ _ h => .inl h).trans (hms.mono fun _ _ h => .inr h)))
      have hnum3 : Hid (nums 8 .u64 (os.take (k + 1)) (.rd inp pos err bad, A) = (.rd inp (rnum 8 inp pos' err').2.1 (rnum 8 inp pos' err').2.2 bad, upd A' q (.int .u64 (rnum 8 inp pos' err').1))) := HS.out
      clear HS HCALL hr hm2 hb2 hms hcr hbl hm hcell hc0 hc1 HT
      go_wp2
      go_roundw
      case rel => exact ⟨k + 1, _, _, _, by omega, by go_num, hnum3, hcr3, hset, hm3⟩
      case measure => simp [intOf]; omega
    · have hkn : os.take k = os := List.take_of_length_le (by omega)
      rw [hkn] at hnum
      clear hkn
      go_wp2
      go_end0
      exact ⟨pos', err', A', rfl, hnum.out, hcr.out, hbl.out, hm.out⟩

theorem u64_gen (c : Nat) (F : Nat → Prop) (s : St) (g : Nat) (A : Cells) (lo : Option Addr) (lc : Nat) (os : List Nat) (w : World) (h : CO w c F s) (hb : Blk w g A) (hg : ¬ F g) (hlen : s.size + 8 * os.length ≤ 20000000) (hn : os.length ≤ 1000)
    (hv : ∀ o ∈ os, IntAt .u64 8 A o) (hl : Sl w 1 lo os.length lc (os.map fun o => .pointer (some ⟨g, o, none⟩))) (hd : ∀ k, rb lo os.length k → ¬ F k ∧ k ≠ g) :
    Calls Try.prog 56 #[.pointer (some ⟨c, 0, none⟩), .slice lo os.length lc] w (GP w c F g (.tuple #[]) (nums 8 .u64 os (s, A)).1 (nums 8 .u64 os (s, A)).2) := by
  cases s with
  | wr bad out =>
    obtain ⟨p, ao, cap, h, rfl⟩ := h
    rw [nums_wr os out A hv]
    have hc := u64w_any c p ao cap bad out lo lc (os.map fun o => (⟨g, o, none⟩, iv (A o))) w h (by simpa [St.size] using hlen) (by
      intro x hx
      obtain ⟨o, ho, rfl⟩ := List.mem_map.1 hx
      exact (hv o ho).iv.2) (by
      rw [List.map_map, List.length_map]; exact hl) (by rw [List.length_map]; exact fun k hk => (hd k hk).1) (by
      intro x hx
      obtain ⟨o, ho, rfl⟩ := List.mem_map.1 hx
      exact ⟨(hb.cell o).trans (hv o ho).iv.1, hg⟩)
    rw [List.length_map, List.map_map] at hc
    refine hc.mono ?_
    rintro e w' ⟨ao', cap', rfl, h1, h2⟩
    obtain ⟨F', k1, k2, k3⟩ := CO.of_c h h1 h2 hb hg
    exact GP.mk k1 k2 k3
  | rd inp pos err bad =>
    obtain ⟨r, ao, cap, h, rfl⟩ := h
    refine (u64r_any c r ao cap inp pos err bad g A lo lc os w h hb hg hn hv hl hd).mono ?_
    rintro e w' ⟨pos', err', A', rfl, he, h1, h2, h3⟩
    rw [he]
    exact GP.mk (F' := FR c r ao inp.length) ⟨r, ao, cap, h1, rfl⟩ ⟨h3.mono fun _ _ h => h.imp (fun e => .inr (.inl e)) id, fun _ h => .inl h⟩ h2

end Go.Proofs.Ytanknjpcgceccaa
