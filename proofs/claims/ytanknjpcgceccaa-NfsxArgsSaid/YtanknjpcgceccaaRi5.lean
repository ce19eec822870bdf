/- The reference's ReadArgs. (Printed by wip/tools/gen_ri5.py.) -/
import Derived.Test.YtanknjpcgceccaaRi4
import Derived.Test.YtanknjpcgceccaaRo6
namespace Go.Proofs.Ytanknjpcgceccaa
open Go.RowKit

def iFile (q : Int) (x : X) : X := if fileB q then pText 64 0 x else x
def iFront (q : Int) (x : X) : X := if namedB q then pText 255 2 (iFile q x) else iFile q x
/-- What stands behind the handle and the name; of WRITE, ahead of the data. -/
def iBody (q : Int) (y : X) : X :=
  if q = 2 then pIf 19 (pTime 20) (pTruth 19 (pSet 5 y)) else if q = 4 then num1 4 .u32 22 y
  else if q = 6 then num1 4 .u32 24 (num1 8 .u64 23 y) else if q = 21 then num1 4 .u32 24 (num1 8 .u64 23 y)
  else if q = 7 then pNumber 0 2 25 (num1 4 .u32 24 (num1 8 .u64 23 y)) else if q = 101 then pText 1024 4 y else if q = 103 then pText 1024 4 y else iMore q y
def iAll (q : Int) (x : X) : X × List UInt8 :=
  if q = 7 then (let z := iBody 7 (iFront 7 x); let r := z.1.row 8192 []; ((r.2, z.2), r.1)) else (iBody q (iFront q x), [])
def iEnd (bs : List UInt8) (y : X × List UInt8) : ArgsV × Int :=
  match y.1.1 with
  | .rd _ pos err bad => if endedB bs pos err bad then (argsOf y.1.2 y.2, 0) else (zeroArgs, 33)
  | .wr .. => (zeroArgs, 33)
/-- It reads what nfsx reads. -/
theorem iAll_eq (k : Nat) (hk : thereN k) (x : X) : iAll (k : Int) x = pAll k x [] := by
  have hcases : k = 0 ∨ k = 1 ∨ k = 2 ∨ k = 3 ∨ k = 4 ∨ k = 5 ∨ k = 6 ∨ k = 7 ∨ k = 8 ∨ k = 9 ∨ k = 10 ∨ k = 11 ∨ k = 12 ∨ k = 13 ∨ k = 14 ∨ k = 15 ∨ k = 16 ∨ k = 17 ∨ k = 18 ∨ k = 19 ∨ k = 20 ∨ k = 21 ∨ k = 100 ∨ k = 101 ∨ k = 102 ∨ k = 103 ∨ k = 104 ∨ k = 105 := by unfold thereN at hk; omega
  rcases hcases with rfl | rfl | rfl | rfl | rfl | rfl | rfl | rfl | rfl | rfl | rfl | rfl | rfl | rfl | rfl | rfl | rfl | rfl | rfl | rfl | rfl | rfl | rfl | rfl | rfl | rfl | rfl | rfl
  all_goals rfl

theorem zero_zs (dv : Value) : Zs (cellsOf zeroArgs dv) := by
  intro j hj
  match j, hj with
  | 0, _ => rfl
  | 1, _ => rfl
  | 2, _ => rfl
  | 3, _ => rfl
  | 4, _ => rfl
  | 5, _ => rfl
  | 6, _ => rfl
  | 7, _ => rfl
  | 8, _ => rfl
  | 9, _ => rfl
  | 10, _ => rfl
  | 11, _ => rfl
  | 12, _ => rfl
  | 13, _ => rfl

/-- Behind the arguments. -/
def RA (w : World) (c r : Nat) (so : Option Addr) (sc : Nat) (bs : List UInt8) (g g2 : Nat) (w3 : World) (ya : X × List UInt8) (wx : World) : Prop :=
  ∃ xo xc, Hid (IX wx c r so sc bs g (ya.1.1, upd ya.1.2 28 (.slice xo ya.2.length xc))) ∧ Hid (SlB wx xo xc ya.2) ∧ Hid (∀ k, rb xo ya.2.length k → w.heap.size ≤ k ∧ k < wx.heap.size ∧ k ≠ g2 ∧ k ≠ g) ∧
    Hid (Typed (argLay (.slice none 0 0)) ya.1.2) ∧ Hid (Mods (FG c r g) w3 wx)
theorem RA.other {w : World} {c r : Nat} {so : Option Addr} {sc : Nat} {bs : List UInt8} {g g2 : Nat} {w3 : World} {ya : X × List UInt8} {wx : World} {y : X} {dv : Value} (hdv : dv = .slice none 0 0) (hya : ya = (y, [])) (A : IX wx c r so sc bs g y) (K : Typed (argLay dv) y.2) (M : Mods (FG c r g) w3 wx) : RA w c r so sc bs g g2 w3 ya wx := by
  subst hdv hya
  refine ⟨none, 0, ?_, SlB.nil _, fun k hk => absurd rfl hk.1, K, M⟩
  show IX wx c r so sc bs g (y.1, upd y.2 28 (.slice none 0 0))
  rw [upd_self (K 28 _ rfl)]
  exact A

set_option maxRecDepth 100000 in
set_option maxHeartbeats 8000000 in
theorem RReadArgs_no (q : Int) (ht : there q = false) (so : Option Addr) (n sc : Nat) (w : World) :
    Calls Try.prog 11 #[.int .i64 q, .slice so n sc] w (RAP w zeroArgs 36) := by
  have HIS := hid (fun w => RThere_any q w)
  rw [ht] at HIS
  clear ht
  go_enter Try.func11, Try.ntmps11
  go_wp2_with fail
  refine (HIS.out _).mono ?_
  rintro e w0 ⟨rfl, rfl⟩
  have hZ : Blk (w.alloc (.cells (zeroArgs.cells (.slice none 0 0)).toArray 30)) w.heap.size (cellsOf zeroArgs (.slice none 0 0)) := (Blk.new w _ _).congr (by funext j; simp [cellsOf])
  have hm : Mods (fun _ => False) w (w.alloc (.cells (zeroArgs.cells (.slice none 0 0)).toArray 30)) := Mods.alloc _ _ _
  rw [zeros_eq] at hZ hm
  have HZ := hid hZ; have HM := hid hm
  clear hZ hm
  go_upto_region 2 with fail
  generalize w.alloc (.cells _ 30) = w1 at HZ HM ⊢
  refine wp_region_list (wpList_val (v := .agg (zeroArgs.cells (.slice none 0 0)).toArray) rfl (by rw [zeros_eq]; go_simp) ?_)
  simp only [Act.put, List.setIfInBounds_toArray, List.set_cons_succ, List.set_cons_zero]
  have ht : w1.there w.heap.size 0 36 := fun j hj => ⟨by rw [Nat.zero_add, HZ.out.cell j]; exact (Option.isSome_iff_exists.2 ⟨_, List.getElem?_eq_getElem (show j < (zeroArgs.cells (.slice none 0 0)).length from hj)⟩), by rw [Nat.zero_add]; exact HZ.out.free j⟩
  refine wpList_storeC (b := w.heap.size) (cells := (zeroArgs.cells (.slice none 0 0)).toArray) rfl rfl rfl rfl rfl ht (by kernel_rfl) (cells_one _ _ _ _) ?_
  have hr := World.rangeAt_setCells_same w1 w.heap.size 0 (zeroArgs.cells (.slice none 0 0)) ht
  have hms : Mods (fun k => k = w.heap.size) w1 (w1.setCells w.heap.size 0 (zeroArgs.cells (.slice none 0 0))) := Mods.setCells _ rfl
  have HM2 := hid (HM.out.step hms fun k hk e => absurd hk (by omega))
  rw [List.toList_toArray]
  generalize w1.setCells w.heap.size 0 (zeroArgs.cells (.slice none 0 0)) = w2 at hr HM2 ⊢
  have HR := hid hr
  clear hr hms ht HZ HM HIS
  go_wp2_with fail
  refine bodyPost_ret (results_cell2 rfl rfl (run_loadVar_mid w2 w.heap.size 0 _ _ _ HR.out Try.underlying30 rfl (by kernel_rfl)) rfl) rfl ?_
  exact ⟨none, 0, rfl, SlB.nil _, fun k hk => absurd rfl hk.1, HM2.out⟩

set_option maxRecDepth 100000 in
set_option maxHeartbeats 8000000 in
theorem RReadArgs_yes (q : Int) (hq : there q = true) (so : Option Addr) (sc : Nat) (bs : List UInt8) (w : World) (hs : SlB w so sc bs) (hlen : bs.length ≤ 1000000000) :
    Calls Try.prog 11 #[.int .i64 q, .slice so bs.length sc] w (RAP w (iEnd bs (iAll q (.rd bs 0 0 false, cellsOf zeroArgs (.slice none 0 0)))).1 (iEnd bs (iAll q (.rd bs 0 0 false, cellsOf zeroArgs (.slice none 0 0)))).2) := by
  obtain ⟨dv, hdv⟩ : ∃ dv, dv = Value.slice none 0 0 := ⟨_, rfl⟩
  obtain ⟨x0, hx0⟩ : ∃ x : X, x = (.rd bs 0 0 false, cellsOf zeroArgs (.slice none 0 0)) := ⟨_, rfl⟩
  rw [← hx0]
  have KX : Hid (Typed (argLay dv) x0.2) := by rw [hx0, hdv]; exact typed_cells zero_good zero_few _
  have ZX : Hid (Zs x0.2) := by rw [hx0]; exact zero_zs _
  have HDV := hid hdv; have HX := hid hx0
  clear hdv hx0
  obtain ⟨ya, hya⟩ : ∃ z, z = iAll q x0 := ⟨_, rfl⟩
  rw [← hya]
  obtain ⟨res, hres⟩ : ∃ z, z = iEnd bs ya := ⟨_, rfl⟩
  rw [← hres]
  obtain ⟨fb, hfb⟩ : ∃ b, b = fileB q := ⟨_, rfl⟩
  obtain ⟨nb, hnb⟩ : ∃ b, b = namedB q := ⟨_, rfl⟩
  obtain ⟨yf, hyf⟩ : ∃ z, z = if fb then pText 64 0 x0 else x0 := ⟨_, rfl⟩
  obtain ⟨y0, hyn⟩ : ∃ z, z = if nb then pText 255 2 yf else yf := ⟨_, rfl⟩
  have hfront : iFront q x0 = y0 := by rw [hyn, hyf, hfb, hnb]; rfl
  have KF : Hid (Typed (argLay dv) yf.2) := by
    show Typed _ _; rw [hyf]; split
    · exact KX.out.tText (by decide) rfl
    · exact KX.out
  have K0 : Hid (Typed (argLay dv) y0.2) := by
    show Typed _ _; rw [hyn]; split
    · exact KF.out.tText (by decide) rfl
    · exact KF.out
  have ZF : Hid (Zs yf.2) := by
    show Zs _; rw [hyf]; split
    · exact ZX.out.upd _ (by omega)
    · exact ZX.out
  have Z0 : Hid (Zs y0.2) := by
    show Zs _; rw [hyn]; split
    · exact ZF.out.upd _ (by omega)
    · exact ZF.out
  have HYA : Hid (ya = if q = 7 then (let z := iBody 7 y0; let r := z.1.row 8192 []; ((r.2, z.2), r.1)) else (iBody q y0, [])) := by
    show ya = _
    rw [hya]
    by_cases h7 : q = 7
    · subst h7; rw [← hfront]; rfl
    · rw [← hfront, iAll, if_neg h7, if_neg h7]
  have HYF := hid hyf; have HYN := hid hyn; have HFB := hid hfb; have HRES := hid hres
  have HTH := hid (RThere_any q); rw [hq] at HTH
  have HNM := hid (Rnamed_any q); rw [← hnb] at HNM
  have HS := hid hs; have HLN := hid hlen
  clear hya hyf hyn hfb hnb hfront hres hq hs hlen
  go_enter Try.func11, Try.ntmps11
  go_wp2_with fail
  refine (HTH.out _).mono ?_
  rintro e wz ⟨rfl, rfl⟩
  have hZ : Blk (w.alloc (.cells (zeroArgs.cells (.slice none 0 0)).toArray 30)) w.heap.size (cellsOf zeroArgs (.slice none 0 0)) := (Blk.new w _ _).congr (by funext j; simp [cellsOf])
  have hm : Mods (fun _ => False) w (w.alloc (.cells (zeroArgs.cells (.slice none 0 0)).toArray 30)) := Mods.alloc _ _ _
  have hsz : (w.alloc (.cells (zeroArgs.cells (.slice none 0 0)).toArray 30)).heap.size = w.heap.size + 1 := by simp
  rw [zeros_eq] at hZ hm hsz
  have HZ := hid hZ; have HM := hid hm; have HSZ := hid hsz
  clear hZ hm hsz HTH
  go_upto_region 3 with fail
  generalize w.alloc (.cells _ 30) = w1 at HZ HM HSZ ⊢
  go_upto_region 4 with fail
  have hmr : Mods (fun _ => False) w1 ((w1.alloc (.cells #[.slice so bs.length sc, .int .i64 0, .int .i64 0] 75))) := Mods.alloc _ _ _
  have hmc : Mods (fun _ => False) (w1.alloc (.cells #[.slice so bs.length sc, .int .i64 0, .int .i64 0] 75)) ((w1.alloc (.cells #[.slice so bs.length sc, .int .i64 0, .int .i64 0] 75)).alloc (.cells #[.pointer (some ⟨w1.heap.size, 0, none⟩), .bool false] 77)) := Mods.alloc _ _ _
  have hor := heap_alloc_new w1 (.cells #[.slice so bs.length sc, .int .i64 0, .int .i64 0] 75)
  have hoc := heap_alloc_new (w1.alloc (.cells #[.slice so bs.length sc, .int .i64 0, .int .i64 0] 75)) (.cells #[.pointer (some ⟨w1.heap.size, 0, none⟩), .bool false] 77)
  have hs1 : (w1.alloc (.cells #[.slice so bs.length sc, .int .i64 0, .int .i64 0] 75)).heap.size = w1.heap.size + 1 := by simp
  have hs2 : ((w1.alloc (.cells #[.slice so bs.length sc, .int .i64 0, .int .i64 0] 75)).alloc (.cells #[.pointer (some ⟨w1.heap.size, 0, none⟩), .bool false] 77)).heap.size = w1.heap.size + 1 + 1 := by simp
  have hor2 := hmc.obj hor fun h => h
  rw [hs1] at hoc
  have hm12 := hmr.trans hmc
  generalize (w1.alloc (.cells #[.slice so bs.length sc, .int .i64 0, .int .i64 0] 75)).alloc (.cells #[.pointer (some ⟨w1.heap.size, 0, none⟩), .bool false] 77) = w2 at hoc hor2 hm12 hs2 ⊢
  have HS2 := hid hs2
  clear hmr hmc hor hs1 hs2
  have hw1s := HSZ.out
  obtain ⟨c, hc⟩ : ∃ z, z = w1.heap.size + 1 := ⟨_, rfl⟩
  obtain ⟨r, hr⟩ : ∃ z, z = w1.heap.size := ⟨_, rfl⟩
  rw [← hc] at hoc ⊢
  rw [← hr] at hor2 hoc ⊢
  have HRB : Hid (∀ k, rb so bs.length k → k < w.heap.size) := fun k hk => by
    obtain ⟨b, o, rfl, hcb⟩ := HS.out.at (j := 0) (Nat.pos_of_ne_zero hk.1)
    have : b = k := hk.2
    subst this
    exact World.block_lt_of_cell? w ⟨b, o + 0, none⟩ hcb
  have HRD : Hid (IAt w2 c r so sc bs (.rd bs 0 0 false)) := ⟨0, 0, false, rfl, ⟨hoc, ⟨⟨_, hor2⟩, HS.out.keep (HM.out.trans hm12) (fun _ _ h => h), fun k hk => by have := HRB.out k hk; omega, Nat.zero_le _, HLN.out⟩, by omega, fun k hk => by have := HRB.out k hk; omega⟩⟩
  have HM2 := hid (HM.out.trans hm12)
  have HZ2 := hid (HZ.out.keep hm12 fun h => h)
  have HSC : Hid (c = w.heap.size + 2 ∧ r = w.heap.size + 1 ∧ w2.heap.size = w.heap.size + 3) := ⟨by omega, by omega, by have := HS2.out; omega⟩
  clear hw1s hm12 HZ HM hoc hor2 HSZ HS2
  clear hr hc
  go_upto_region 5 with fail
  have hA : Blk (w2.alloc (.cells (zeroArgs.cells (.slice none 0 0)).toArray 30)) w2.heap.size (cellsOf zeroArgs (.slice none 0 0)) := (Blk.new w2 _ _).congr (by funext j; simp [cellsOf])
  have hmA : Mods (fun _ => False) w2 (w2.alloc (.cells (zeroArgs.cells (.slice none 0 0)).toArray 30)) := Mods.alloc _ _ _
  rw [zeros_eq] at hA hmA
  generalize w2.alloc (.cells _ 30) = w3 at hA hmA ⊢
  obtain ⟨g, hg⟩ : ∃ z, z = w2.heap.size := ⟨_, rfl⟩
  obtain ⟨g2, hg2⟩ : ∃ z, z = w.heap.size := ⟨_, rfl⟩
  rw [← hg] at hA ⊢
  rw [← hg2] at HZ2 ⊢
  have hsc := HSC.out
  have HSG : Hid (c = w.heap.size + 2 ∧ r = w.heap.size + 1 ∧ g = w.heap.size + 3 ∧ g2 = w.heap.size) := ⟨by omega, by omega, by omega, hg2⟩
  have hnf : ¬ FR c r so bs.length g := fun hf => by
    rcases hf with hf | hf | hf
    · omega
    · omega
    · have := HRB.out g hf; omega
  have HNG : Hid (¬ FG c r g g2) := fun hf => by
    rcases hf with (hf | hf) | hf <;> omega
  have Ai : Hid (IX w3 c r so sc bs g x0) := by rw [HX.out]; exact ⟨HRD.out.keep hmA fun _ _ h => h, hA, hnf⟩
  have Mi : Hid (Mods (FG c r g) w3 w3) := Mods.refl _ _
  have HM3 := hid (HM2.out.trans hmA)
  have HZ3 := hid (HZ2.out.keep hmA fun h => h)
  clear hA hmA hsc hnf hg hg2 HRD HM2 HZ2 HSC
  go_cut [22] from 8 (fun v wx => v = .bool fb ∧ w3 = wx)
  case first =>
    have key : ∀ (b0 b1 : Bool), decide (1 ≤ q) = b0 → decide (q ≤ 21) = b1 → fb = (b0 && b1) := fun b0 b1 h0 h1 => by rw [← h0, ← h1]; exact HFB.out
    have KEY := hid key; clear key
    by_cases h0 : 1 ≤ q
    · by_cases h1 : q ≤ 21
      · go_wp2_with fail
        go_meet
        case rel => exact ⟨by rw [KEY.out true true (decide_eq_true h0) (decide_eq_true h1)]; rfl, rfl⟩
      · go_wp2_with fail
        go_meet
        case rel => exact ⟨by rw [KEY.out true false (decide_eq_true h0) (decide_eq_false (by omega))]; rfl, rfl⟩
    · go_wp2_with fail
      go_meet
      case rel => exact ⟨by rw [KEY.out false _ (decide_eq_false (by omega)) rfl]; rfl, rfl⟩
  case rest =>
    obtain ⟨rfl, rfl⟩ := hcut
    go_upto_if 22 with fail
    go_cut [] from 8 (fun wx => Hid (IX wx c r so sc bs g yf) ∧ Hid (Mods (FG c r g) w3 wx))
    case first =>
      cases fb
      · have HY : Hid (yf = x0) := HYF.out
        go_wp2_with fail
        go_meet
        case rel => obtain rfl := HY.out; exact ⟨Ai, Mi⟩
      · have hy : yf = pText 64 0 x0 := HYF.out
        have D := hid (Ai.out.text KX.out (o := 0) rfl 64 (by decide))
        rw [← hy] at D
        clear hy
        go_wp2_with fail
        refine D.out.mono ?_
        rintro e wa ⟨rfl, A2, m, ⟨u, hu⟩, hf⟩
        have M2 := hid (Mi.out.trans m.out); clear m D
        go_wp2_with fail
        go_meet
        case rel => exact ⟨A2, M2⟩
    case rest =>
      clear Ai Mi
      obtain ⟨Af, Mf⟩ := hcut
      go_wp2_with fail
      refine (HNM.out _).mono ?_
      rintro e wb ⟨rfl, rfl⟩
      go_upto_if 27 with fail
      go_cut [] from 8 (fun wx => Hid (IX wx c r so sc bs g y0) ∧ Hid (Mods (FG c r g) w3 wx))
      case first =>
        cases nb
        · have HY : Hid (y0 = yf) := HYN.out
          go_wp2_with fail
          go_meet
          case rel => obtain rfl := HY.out; exact ⟨Af, Mf⟩
        · have hy : y0 = pText 255 2 yf := HYN.out
          have D := hid (Af.out.text KF.out (o := 2) rfl 255 (by decide))
          rw [← hy] at D
          clear hy
          go_wp2_with fail
          refine D.out.mono ?_
          rintro e wa ⟨rfl, A2, m, ⟨u, hu⟩, hf⟩
          have M2 := hid (Mf.out.trans m.out); clear m D
          go_wp2_with fail
          go_meet
          case rel => exact ⟨A2, M2⟩
      case rest =>
        clear Af Mf KF ZF HYF HYN HFB HNM KX ZX
        obtain ⟨A0, M0⟩ := hcut
        go_upto_region 9 with fail
        obtain ⟨w9, hw9⟩ : ∃ z, z = wc := ⟨_, rfl⟩
        rw [← hw9] at A0 M0 ⊢
        clear hw9
        go_cut [31] from 31 (fun v wx => v = .int .i64 q ∧ w9 = wx)
        case first =>
          go_wp2_with fail
          go_meet
          case rel => exact ⟨rfl, rfl⟩
        case rest =>
        obtain ⟨rfl, rfl⟩ := hcut
        rename_i hK
        refine hK _ _ ?_
        go_cut [] from 32 (fun wx => RA w c r so sc bs g g2 w3 ya wx)
        case first =>

          by_cases h2 : q = 2
          · subst h2
            obtain ⟨y1, e1⟩ : ∃ z, z = pSet 5 y0 := ⟨_, rfl⟩
            have K1 : Hid (Typed (argLay dv) y1.2) := by show Typed _ _; rw [e1]; exact K0.out.tSet
            have E1 := hid e1; clear e1
            have D := hid (A0.out.set Z0.out)
            rw [← E1.out] at D
            go_upto_region 12 with fail
            refine wp_region_list (wpList_val (v := .pointer (some ⟨c, 0, none⟩)) rfl rfl ?_)
            simp only [Act.put, List.setIfInBounds_toArray, List.set_cons_succ, List.set_cons_zero]
            refine wpl_call (f := 27) (args := #[.pointer (some ⟨c, 0, none⟩)]) (R := fun v w' => XSet _ c r so sc bs g y1 (.returned v) w') rfl (by go_simp) (D.out.mono fun e w' h => by obtain ⟨l, he, h2⟩ := h; exact ⟨_, he, l, rfl, h2⟩) ?_
            rintro v wa ⟨l, hl, HL, A1, m, HT, H1⟩
            obtain rfl : v = .agg l.toArray := by injection hl
            clear D hl
            simp only [Act.put, List.setIfInBounds_toArray, List.set_cons_succ, List.set_cons_zero]
            refine wpList_val (v := .pointer (some ⟨g, 5, none⟩)) rfl (by go_simp) ?_
            simp only [Act.put, List.setIfInBounds_toArray, List.set_cons_succ, List.set_cons_zero]
            refine wpList_storeO (b := g) (off := 5) (l := l) rfl rfl rfl rfl rfl (by rw [HL.out]; exact HT.out) (by rw [HL.out]; kernel_rfl) H1.out ?_
            generalize World.setCells wa _ _ _ = w1 at A1 m ⊢
            have M1 := hid (M0.out.trans m.out); clear m HT H1
            obtain ⟨y2, e2⟩ : ∃ z, z = pTruth 19 y1 := ⟨_, rfl⟩
            have K2 : Hid (Typed (argLay dv) y2.2) := by show Typed _ _; rw [e2]; exact K1.out.tTruth rfl
            have E2 := hid e2; clear e2
            have D := hid (A1.out.bool K1.out (o := 19) rfl)
            rw [← E2.out] at D
            have hc := A1.out.it.c0
            go_wp2_with fail
            refine D.out.mono ?_
            rintro e wa ⟨rfl, A2, m, ⟨u, hu⟩, hf⟩
            clear D hc
            go_upto_region 14 with fail
            generalize World.setCell wa _ _ = w2 at A2 m ⊢
            clear hu hf
            have M2 := hid (M1.out.trans m.out); clear m
            obtain ⟨b2, hb⟩ : ∃ b, b = bv (y2.2 19) := ⟨_, rfl⟩
            have hcell : w2.cell? ⟨g, 19, none⟩ = some (.bool b2) := by rw [hb]; exact (A2.out.bl.cell 19).trans (K2.out 19 _ rfl).bv
            have B2 := hid hb; clear hb
            have HP : Hid (ya = (pIf 19 (pTime 20) y2, [])) := HYA.out.trans (by rw [E2.out, E1.out]; rfl)
            cases b2
            · have hy : pIf 19 (pTime 20) y2 = y2 := by rw [pIf, ← B2.out]; rfl
              have HP2 := hid (HP.out.trans (by rw [hy])); clear hy
              go_wp2_with fail
              go_meet
              case rel => exact RA.other HDV.out HP2.out A2.out K2.out M2.out
            · obtain ⟨y3, e3⟩ : ∃ z, z = pTime 20 y2 := ⟨_, rfl⟩
              have K3 : Hid (Typed (argLay dv) y3.2) := by show Typed _ _; rw [e3]; exact K2.out.tTime rfl rfl
              have hy : pIf 19 (pTime 20) y2 = y3 := by rw [pIf, ← B2.out, e3]; rfl
              have HP2 := hid (HP.out.trans (by rw [hy])); clear hy
              have D := hid (A2.out.time K2.out (o := 20) rfl rfl)
              rw [← e3] at D
              clear e3
              go_wp2_with fail
              refine D.out.mono ?_
              rintro e wa ⟨rfl, A3, m, ⟨u, hu⟩, hf, ⟨u2, hu2⟩, hf2⟩
              have M3 := hid (M2.out.trans m.out); clear m D hcell
              go_wp2_with fail
              go_meet
              case rel => exact RA.other HDV.out HP2.out A3.out K3.out M3.out
          by_cases h4 : q = 4
          · subst h4
            clear h2
            obtain ⟨y1, e1⟩ : ∃ z, z = num1 4 .u32 22 y0 := ⟨_, rfl⟩
            have K1 : Hid (Typed (argLay dv) y1.2) := by show Typed _ _; rw [e1]; exact K0.out.tU32 rfl
            have E1 := hid e1; clear e1
            have D := hid (A0.out.u32 K0.out (o := 22) rfl)
            rw [← E1.out] at D
            go_wp2_with fail
            refine D.out.mono ?_
            rintro e wa ⟨rfl, A1, m, ⟨u, hu⟩, hf⟩
            clear D
            have M1 := hid (M0.out.trans m.out); clear m
            go_wp2_with fail
            go_meet
            case rel => exact RA.other HDV.out (HYA.out.trans (by rw [E1.out]; rfl)) A1.out K1.out M1.out
          by_cases h6 : q = 6
          · subst h6
            clear h2 h4
            obtain ⟨y1, e1⟩ : ∃ z, z = num1 8 .u64 23 y0 := ⟨_, rfl⟩
            have K1 : Hid (Typed (argLay dv) y1.2) := by show Typed _ _; rw [e1]; exact K0.out.tU64 rfl
            have E1 := hid e1; clear e1
            have D := hid (A0.out.u64 K0.out (o := 23) rfl)
            rw [← E1.out] at D
            have hc := A0.out.it.c0
            go_wp2_with fail
            refine D.out.mono ?_
            rintro e wa ⟨rfl, A1, m, ⟨u, hu⟩, hf⟩
            clear D hc
            go_upto_region 22 with fail
            generalize World.setCell wa _ _ = w1 at A1 m ⊢
            clear hu hf
            have M1 := hid (M0.out.trans m.out); clear m
            obtain ⟨y2, e2⟩ : ∃ z, z = num1 4 .u32 24 y1 := ⟨_, rfl⟩
            have K2 : Hid (Typed (argLay dv) y2.2) := by show Typed _ _; rw [e2]; exact K1.out.tU32 rfl
            have E2 := hid e2; clear e2
            have D := hid (A1.out.u32 K1.out (o := 24) rfl)
            rw [← E2.out] at D
            go_wp2_with fail
            refine D.out.mono ?_
            rintro e wa ⟨rfl, A2, m, ⟨u, hu⟩, hf⟩
            clear D
            have M2 := hid (M1.out.trans m.out); clear m
            go_wp2_with fail
            go_meet
            case rel => exact RA.other HDV.out (HYA.out.trans (by rw [E2.out, E1.out]; rfl)) A2.out K2.out M2.out
          by_cases h21 : q = 21
          · subst h21
            clear h2 h4 h6
            obtain ⟨y1, e1⟩ : ∃ z, z = num1 8 .u64 23 y0 := ⟨_, rfl⟩
            have K1 : Hid (Typed (argLay dv) y1.2) := by show Typed _ _; rw [e1]; exact K0.out.tU64 rfl
            have E1 := hid e1; clear e1
            have D := hid (A0.out.u64 K0.out (o := 23) rfl)
            rw [← E1.out] at D
            have hc := A0.out.it.c0
            go_wp2_with fail
            refine D.out.mono ?_
            rintro e wa ⟨rfl, A1, m, ⟨u, hu⟩, hf⟩
            clear D hc
            go_upto_region 22 with fail
            generalize World.setCell wa _ _ = w1 at A1 m ⊢
            clear hu hf
            have M1 := hid (M0.out.trans m.out); clear m
            obtain ⟨y2, e2⟩ : ∃ z, z = num1 4 .u32 24 y1 := ⟨_, rfl⟩
            have K2 : Hid (Typed (argLay dv) y2.2) := by show Typed _ _; rw [e2]; exact K1.out.tU32 rfl
            have E2 := hid e2; clear e2
            have D := hid (A1.out.u32 K1.out (o := 24) rfl)
            rw [← E2.out] at D
            go_wp2_with fail
            refine D.out.mono ?_
            rintro e wa ⟨rfl, A2, m, ⟨u, hu⟩, hf⟩
            clear D
            have M2 := hid (M1.out.trans m.out); clear m
            go_wp2_with fail
            go_meet
            case rel => exact RA.other HDV.out (HYA.out.trans (by rw [E2.out, E1.out]; rfl)) A2.out K2.out M2.out
          by_cases h7 : q = 7
          · subst h7
            clear h2 h4 h6 h21
            obtain ⟨y1, e1⟩ : ∃ z, z = num1 8 .u64 23 y0 := ⟨_, rfl⟩
            have K1 : Hid (Typed (argLay dv) y1.2) := by show Typed _ _; rw [e1]; exact K0.out.tU64 rfl
            have E1 := hid e1; clear e1
            have D := hid (A0.out.u64 K0.out (o := 23) rfl)
            rw [← E1.out] at D
            have hc := A0.out.it.c0
            go_wp2_with fail
            refine D.out.mono ?_
            rintro e wa ⟨rfl, A1, m, ⟨u, hu⟩, hf⟩
            clear D hc
            go_upto_region 22 with fail
            generalize World.setCell wa _ _ = w1 at A1 m ⊢
            clear hu hf
            have M1 := hid (M0.out.trans m.out); clear m
            obtain ⟨y2, e2⟩ : ∃ z, z = num1 4 .u32 24 y1 := ⟨_, rfl⟩
            have K2 : Hid (Typed (argLay dv) y2.2) := by show Typed _ _; rw [e2]; exact K1.out.tU32 rfl
            have E2 := hid e2; clear e2
            have D := hid (A1.out.u32 K1.out (o := 24) rfl)
            rw [← E2.out] at D
            go_wp2_with fail
            refine D.out.mono ?_
            rintro e wa ⟨rfl, A2, m, ⟨u, hu⟩, hf⟩
            clear D
            go_upto_region 23 with fail
            generalize World.setCell wa _ _ = w2 at A2 m ⊢
            clear hu hf
            have M2 := hid (M1.out.trans m.out); clear m
            go_upto_region 24 with fail
            obtain ⟨y3, e3⟩ : ∃ z, z = pNumber 0 2 25 y2 := ⟨_, rfl⟩
            have K3 : Hid (Typed (argLay dv) y3.2) := by show Typed _ _; rw [e3]; exact K2.out.tNumber rfl
            have E3 := hid e3; clear e3
            have D := hid (A2.out.upto K2.out (o := 25) rfl 0 2)
            rw [← E3.out] at D
            go_wp2_with fail
            refine D.out.mono ?_
            rintro e wa ⟨rfl, A3, m, ⟨u, hu⟩, hf⟩
            clear D
            go_upto_region 25 with fail
            generalize World.setCell wa _ _ = w3 at A3 m ⊢
            clear hu hf
            have M3 := hid (M2.out.trans m.out); clear m
            obtain ⟨z3, hz3⟩ : ∃ z, y3.2 28 = some z := ⟨dv, K3.out 28 _ rfl⟩
            have HP : Hid (ya = (((y3.1.row 8192 []).2, y3.2), (y3.1.row 8192 []).1)) := HYA.out.trans (by rw [E3.out, E2.out, E1.out]; rfl)
            have D := hid (A3.out.bytes hz3 8192 (by decide))
            generalize y3.1.row 8192 [] = rr at D HP
            obtain ⟨ds, s4⟩ := rr
            have hc := A3.out.it.c0
            have HW3 := hid (HM3.out.size); have HW4 := hid (M3.out.size); have HGL := hid A3.out.bl.lt
            clear hz3
            go_wp2_with fail
            refine D.out.mono ?_
            rintro e wa ⟨xo, xc, ⟨rfl, A4, m, ⟨u, hu⟩, hf⟩, q1, q2⟩
            have M4 := hid (M3.out.trans m.out); clear m D hc
            go_wp2_with fail
            go_meet
            case rel =>
              refine ⟨xo, xc, ?_, ?_, ?_, ?_, M4⟩
              · rw [HP.out]; exact A4
              · rw [HP.out]; exact q1
              · rw [HP.out]
                intro k hk
                have h1 := q2.out k hk; have h2 := HW3.out; have h3 := HW4.out; have h4 := HSG.out; have h5 := HGL.out
                rw [show ∀ (v : World) (a : Addr) (u : Value), (v.setCell a u).heap.size = v.heap.size from fun v a u => by simp]
                omega
              · rw [HP.out]; rw [← HDV.out]; exact K3
          by_cases h101 : q = 101
          · subst h101
            clear h2 h4 h6 h21 h7
            obtain ⟨y1, e1⟩ : ∃ z, z = pText 1024 4 y0 := ⟨_, rfl⟩
            have K1 : Hid (Typed (argLay dv) y1.2) := by show Typed _ _; rw [e1]; exact K0.out.tText (by decide) rfl
            have E1 := hid e1; clear e1
            have D := hid (A0.out.text K0.out (o := 4) rfl 1024 (by decide))
            rw [← E1.out] at D
            go_wp2_with fail
            refine D.out.mono ?_
            rintro e wa ⟨rfl, A1, m, ⟨u, hu⟩, hf⟩
            clear D
            have M1 := hid (M0.out.trans m.out); clear m
            go_wp2_with fail
            go_meet
            case rel => exact RA.other HDV.out (HYA.out.trans (by rw [E1.out]; rfl)) A1.out K1.out M1.out
          by_cases h103 : q = 103
          · subst h103
            clear h2 h4 h6 h21 h7 h101
            obtain ⟨y1, e1⟩ : ∃ z, z = pText 1024 4 y0 := ⟨_, rfl⟩
            have K1 : Hid (Typed (argLay dv) y1.2) := by show Typed _ _; rw [e1]; exact K0.out.tText (by decide) rfl
            have E1 := hid e1; clear e1
            have D := hid (A0.out.text K0.out (o := 4) rfl 1024 (by decide))
            rw [← E1.out] at D
            go_wp2_with fail
            refine D.out.mono ?_
            rintro e wa ⟨rfl, A1, m, ⟨u, hu⟩, hf⟩
            clear D
            have M1 := hid (M0.out.trans m.out); clear m
            go_wp2_with fail
            go_meet
            case rel => exact RA.other HDV.out (HYA.out.trans (by rw [E1.out]; rfl)) A1.out K1.out M1.out
          have n2 : (q == 2) = false := by simpa using h2
          have n4 : (q == 4) = false := by simpa using h4
          have n6 : (q == 6) = false := by simpa using h6
          have n21 : (q == 21) = false := by simpa using h21
          have n7 : (q == 7) = false := by simpa using h7
          have n101 : (q == 101) = false := by simpa using h101
          have n103 : (q == 103) = false := by simpa using h103
          have HQ := hid (And.intro h2 (And.intro h4 (And.intro h6 (And.intro h21 (And.intro h7 (And.intro h101 h103))))))
          clear h2 h4 h6 h21 h7 h101 h103
          obtain ⟨y1, e1⟩ : ∃ z, z = iMore q y0 := ⟨_, rfl⟩
          have D := hid (more_in q c r so sc bs g y0 dv _ A0.out K0.out Z0.out)
          rw [← e1] at D
          have HP : Hid (ya = (y1, [])) := HYA.out.trans (by rw [e1, if_neg HQ.out.2.2.2.2.1, iBody, if_neg HQ.out.1, if_neg HQ.out.2.1, if_neg HQ.out.2.2.1, if_neg HQ.out.2.2.2.1, if_neg HQ.out.2.2.2.2.1, if_neg HQ.out.2.2.2.2.2.1, if_neg HQ.out.2.2.2.2.2.2])
          clear e1
          go_wp2_with fail
          refine D.out.mono ?_
          rintro e wa ⟨⟨rfl, A1, m⟩, K1⟩
          have M1 := hid (M0.out.trans m.out); clear m D
          go_wp2_with fail
          go_meet
          case rel => exact RA.other HDV.out HP.out A1.out K1.out M1.out
        case rest =>
          clear A0 M0 HYA K0 Z0
          obtain ⟨xo, xc, A, HSL, HFR, HTY, M⟩ := hcut
          obtain ⟨wd, rfl⟩ : ∃ z, z = wc := ⟨_, rfl⟩
          obtain ⟨pos, err, bad, hst, hiw⟩ := A.out.it
          have hst2 : ya.1.1 = .rd bs pos err bad := hst
          have hres2 : res = if endedB bs pos err bad then (argsOf ya.1.2 ya.2, 0) else (zeroArgs, 33) := by rw [HRES.out, iEnd, hst2]
          have HR2 := hid hres2
          obtain ⟨eb, heb⟩ : ∃ b, b = endedB bs pos err bad := ⟨_, rfl⟩
          rw [← heb] at HR2
          have hi0 := hiw.c0; have hi1 := hiw.c1
          obtain ⟨T, hro⟩ := hiw.rd.obj
          have hr2 : wd.cell? ⟨r, 2, none⟩ = some (.int .i64 err) := by simp [World.cell?, hro]
          have hL := RLeft_any r so sc bs pos err wd hiw.rd
          obtain ⟨le, hle⟩ : ∃ l : Int, l = (bs.length : Int) - (pos : Int) := ⟨_, rfl⟩
          have hle0 : 0 ≤ le := by have := hiw.rd.le; omega
          rw [← hle] at hL
          have HL := hid hL
          have HEB : Hid (eb = (!bad && (err == 0 && (le == 0)))) := by show eb = _; rw [heb, hle]; rfl
          clear hst hiw hst2 hres2 hro heb HRES hL hle
          go_upto_region 29 with fail
          go_cut [107] from 86 (fun v wx => v = .bool (!eb) ∧ Hid (Mods (fun _ => False) wd wx))
          case first =>
            by_cases he : err = 0
            · subst he
              by_cases hl : le = 0
              · subst hl
                clear hle0
                go_wp2_with fail
                refine HL.out.mono ?_
                rintro e wl ⟨rfl, hq⟩
                have HMQ : Hid (Mods (fun _ => False) wd wl) := Quiet.mods hq _
                have hi1' : wl.cell? ⟨c, 1, none⟩ = some (.bool bad) := HMQ.out.cell hi1 fun h => h
                clear hq hi0 hi1 hr2 HL
                go_wp2_with fail
                go_meet
                case rel => exact ⟨by rw [HEB.out]; cases bad <;> rfl, HMQ⟩
              · have hl0 : 0 < le := by omega
                have hl1 : (le == 0) = false := by simpa using hl
                clear hle0 hl
                go_wp2_with fail
                refine HL.out.mono ?_
                rintro e wl ⟨rfl, hq⟩
                have HMQ : Hid (Mods (fun _ => False) wd wl) := Quiet.mods hq _
                have HLF := hid hl1
                clear hq hi0 hi1 hr2 HL hl1
                go_wp2_with fail
                go_meet
                case rel => exact ⟨by rw [HEB.out, HLF.out]; cases bad <;> rfl, HMQ⟩
            · have he1 : (err == 0) = false := by simpa using he
              have HE1 := hid he1
              have he2 : (err != 0) = true := by simpa using he
              clear hi1 HL he1 he hle0
              go_wp2_with fail
              go_meet
              case rel => exact ⟨by rw [HEB.out, HE1.out]; cases bad <;> rfl, Mods.refl _ _⟩
          case rest =>
            clear hi0 hi1 hr2 HL HEB hle0
            obtain ⟨rfl, hmq⟩ := hcut
            obtain ⟨we, rfl⟩ : ∃ z, z = wc := ⟨_, rfl⟩
            have HM5 := hid (((HM3.out.step M.out fun k hk hf => by
              have := HSG.out
              rcases hf with (hf | hf) | hf <;> omega)).trans hmq.out)
            have HZ5 := hid ((HZ3.out.keep M.out HNG.out).keep hmq.out fun h => h)
            have HX5 := hid (A.out.bl.keep hmq.out fun h => h)
            have HSL5 := hid (HSL.out.keep hmq.out fun _ _ h => h)
            have HSZ5 := hid hmq.out.size
            have HTH : Hid (we.there g2 0 36) := fun j hj => ⟨by rw [Nat.zero_add, HZ5.out.cell j]; exact (Option.isSome_iff_exists.2 ⟨_, List.getElem?_eq_getElem (show j < (zeroArgs.cells (.slice none 0 0)).length from hj)⟩), by rw [Nat.zero_add]; exact HZ5.out.free j⟩
            clear A HSL M hmq HZ3
            cases eb
            · go_upto_region 30 with fail
              refine wp_region_list (wpList_val (v := .agg (zeroArgs.cells (.slice none 0 0)).toArray) rfl (by rw [zeros_eq]; go_simp) ?_)
              simp only [Act.put, List.setIfInBounds_toArray, List.set_cons_succ, List.set_cons_zero]
              refine wpList_storeC (b := g2) (cells := (zeroArgs.cells (.slice none 0 0)).toArray) rfl rfl rfl rfl rfl HTH.out (by kernel_rfl) (cells_one _ _ _ _) ?_
              have hr := World.rangeAt_setCells_same we g2 0 (zeroArgs.cells (.slice none 0 0)) HTH.out
              have hms : Mods (fun k => k = g2) we (we.setCells g2 0 (zeroArgs.cells (.slice none 0 0))) := Mods.setCells _ rfl
              have HM6 := hid (HM5.out.step hms fun k hk e => by have := HSG.out; omega)
              rw [List.toList_toArray]
              generalize we.setCells g2 0 (zeroArgs.cells (.slice none 0 0)) = w6 at hr HM6 ⊢
              have HR := hid hr
              clear hr hms
              refine wpList_val (v := .int .i64 33) rfl rfl ?_
              simp only [Act.put, List.setIfInBounds_toArray, List.set_cons_succ, List.set_cons_zero]
              simp only [wpList, Exit.then]
              rename_i hK2
              refine hK2 _ _ (wp_ret ?_)
              show bodyPost Try.prog _ _ .ret _ _
              refine bodyPost_ret (results_cell2 rfl rfl (run_loadVar_mid w6 g2 0 _ _ _ HR.out Try.underlying30 rfl (by kernel_rfl)) rfl) rfl ?_
              have hres : res = (zeroArgs, 33) := HR2.out
              rw [hres]
              exact ⟨none, 0, rfl, SlB.nil _, fun k hk => absurd rfl hk.1, HM6.out⟩
            · have hcell : we.cell? ⟨g, 28, none⟩ = some (.slice xo ya.2.length xc) := (HX5.out.cell 28).trans (upd_at ya.1.2 28 (.slice xo ya.2.length xc))
              have hfree := HX5.out.free 28
              have hres : res = (argsOf ya.1.2 ya.2, 0) := HR2.out
              obtain ⟨ds, hds⟩ : ∃ d, d = ya.2 := ⟨_, rfl⟩
              rw [← hds] at hcell hres
              obtain ⟨ln, hln⟩ : ∃ d, d = ds.length := ⟨_, rfl⟩
              rw [← hln] at hcell
              have HLN2 := hid hln; have HDS := hid hds; have HRS := hid hres
              clear hln hds hres HR2
              go_upto_if 112 with fail
              go_cut [] from 108 (fun wx => ∃ yo yc, Hid (Blk wx g (upd ya.1.2 28 (.slice yo ds.length yc))) ∧ Hid (SlB wx yo yc ds) ∧ Hid (∀ k, rb yo ds.length k → w.heap.size ≤ k ∧ k < wx.heap.size ∧ k ≠ g2) ∧ Hid (Blk wx g2 (cellsOf zeroArgs (.slice none 0 0))) ∧ Hid (Mods (fun _ => False) w wx))
              case first =>
                by_cases h0 : ln = 0
                · subst h0
                  have hb2 : (((0 : Nat) : Int) == 0) = true := rfl
                  have H6 := hid (HX5.out.set (o := 28) (u := .slice xo ya.2.length xc) (upd_at ya.1.2 28 (.slice xo ya.2.length xc)) (.slice none 0 0))
                  have hmg : Mods (fun k => k = g) we (we.setCell ⟨g, 28, none⟩ (.slice none 0 0)) := Mods.setCell (F := fun k => k = g) (a := ⟨g, 28, none⟩) rfl _
                  have HM6 := hid (HM5.out.step hmg fun k hk e => by have := HSG.out; omega)
                  have HZ6 := hid (HZ5.out.keep hmg fun e => by have := HSG.out; omega)
                  clear hmg hb2
                  go_wp2_with fail
                  go_meet
                  case rel =>
                    have hnil : ds = [] := List.eq_nil_of_length_eq_zero HLN2.out.symm
                    refine ⟨none, 0, H6.out.congr ?_, by rw [hnil]; exact SlB.nil _, by rw [hnil]; exact fun k hk => absurd rfl hk.1, HZ6, HM6⟩
                    rw [hnil]
                    funext j
                    by_cases e : j = 28
                    · subst e; simp only [upd_at]; rfl
                    · rw [upd_ne _ _ e, upd_ne _ _ e]; exact (upd_ne _ _ e).symm
                · have hb2 : ((ln : Int) == 0) = false := by simpa using h0
                  clear h0
                  go_wp2_with fail
                  go_meet
                  case rel =>
                    refine ⟨xo, xc, ?_, ?_, ?_, HZ5, HM5⟩
                    · rw [HDS.out]; exact HX5
                    · rw [HDS.out]; exact HSL5
                    · rw [HDS.out]
                      exact fun k hk => by
                        have h1 := HFR.out k hk
                        have h2 := HSZ5.out
                        exact ⟨h1.1, Nat.lt_of_lt_of_le h1.2.1 h2, h1.2.2.1⟩
              case rest =>
                clear hcell hfree HX5 HSL5 HSZ5 HTH HZ5 HM5 HFR
                obtain ⟨yo, yc, HX, HSL, HFR, HZ, HM⟩ := hcut
                obtain ⟨wf, rfl⟩ : ∃ z, z = wc := ⟨_, rfl⟩
                have hrange : wf.rangeAt g 0 ((argsOf ya.1.2 ds).cells (.slice yo ds.length yc)) := fun j v hj => by
                  have hlt : j < 36 := (List.getElem?_eq_some_iff.1 hj).1
                  have h1 := cells_argsOf (argLay_upd (dv' := .slice yo ds.length yc) HTY.out) ds j hlt
                  rw [argsOf_upd] at h1
                  rw [Nat.zero_add, HX.out.cell j, h1]
                  exact hj
                have hload := run_loadAt_mid (P := Try.prog) wf g 0 30 _ _ hrange Try.underlying30 rfl (by kernel_rfl)
                have HLOAD := hid hload
                have HTH : Hid (wf.there g2 0 36) := fun j hj => ⟨by rw [Nat.zero_add, HZ.out.cell j]; exact (Option.isSome_iff_exists.2 ⟨_, List.getElem?_eq_getElem (show j < (zeroArgs.cells (.slice none 0 0)).length from hj)⟩), by rw [Nat.zero_add]; exact HZ.out.free j⟩
                clear hload hrange
                go_upto_region 33 with fail
                refine wp_region_list (wpList_val (v := .agg ((argsOf ya.1.2 ds).cells (.slice yo ds.length yc)).toArray) rfl ?_ ?_)
                · show (do pure (Next.value (← Instr.loadAt 30 (.pointer (some ⟨g, 0, none⟩))))).run Try.prog wf = _
                  rw [Sem.run_bind, HLOAD.out]
                  rfl
                simp only [Act.put, List.setIfInBounds_toArray, List.set_cons_succ, List.set_cons_zero]
                refine wpList_storeC (b := g2) (cells := ((argsOf ya.1.2 ds).cells (.slice yo ds.length yc)).toArray) rfl rfl rfl rfl rfl HTH.out (by kernel_rfl) (cells_one _ _ _ _) ?_
                have hr := World.rangeAt_setCells_same wf g2 0 ((argsOf ya.1.2 ds).cells (.slice yo ds.length yc)) HTH.out
                have hms : Mods (fun k => k = g2) wf (wf.setCells g2 0 ((argsOf ya.1.2 ds).cells (.slice yo ds.length yc))) := Mods.setCells _ rfl
                have HM6 := hid (HM.out.step hms fun k hk e => by have := HSG.out; omega)
                have HSL6 := hid (HSL.out.keep hms fun k hk e => (HFR.out k hk).2.2 e)
                have HMSZ := hid hms.size
                rw [List.toList_toArray]
                generalize wf.setCells g2 0 ((argsOf ya.1.2 ds).cells (.slice yo ds.length yc)) = w6 at hr HM6 HSL6 HMSZ ⊢
                have HR := hid hr
                clear hr hms
                refine wpList_val (v := .int .i64 0) rfl rfl ?_
                simp only [Act.put, List.setIfInBounds_toArray, List.set_cons_succ, List.set_cons_zero]
                simp only [wpList, Exit.then]
                rename_i hK2
                refine hK2 _ _ (wp_ret ?_)
                show bodyPost Try.prog _ _ .ret _ _
                refine bodyPost_ret (results_cell2 rfl rfl (run_loadVar_mid w6 g2 0 _ _ _ HR.out Try.underlying30 rfl (by kernel_rfl)) rfl) rfl ?_
                rw [HRS.out]
                exact ⟨yo, yc, rfl, HSL6.out, fun k hk => ⟨(HFR.out k hk).1, Nat.lt_of_lt_of_le (HFR.out k hk).2.1 HMSZ.out⟩, HM6.out⟩

theorem RReadArgs_any (p : Int) (so : Option Addr) (sc : Nat) (bs : List UInt8) (w : World) (hs : SlB w so sc bs) (hlen : bs.length ≤ 1000000000) :
    Calls Try.prog 11 #[.int .i64 p, .slice so bs.length sc] w (RAP w (rargs p bs).1 (rargs p bs).2) := by
  by_cases ht : there p = true
  · have h := RReadArgs_yes p ht so sc bs w hs hlen
    obtain ⟨k, rfl, hk⟩ := there_nat ht
    have he : rargs (k : Int) bs = iEnd bs (iAll (k : Int) (.rd bs 0 0 false, cellsOf zeroArgs (.slice none 0 0))) := by
      rw [iAll_eq k hk]
      simp only [rargs, ht, if_true, Int.toNat_natCast]
      rfl
    rw [he]
    exact h
  · have ht' : there p = false := by simpa using ht
    have hr : rargs p bs = (zeroArgs, 36) := by simp [rargs, ht']
    rw [hr]
    exact RReadArgs_no p ht' so bs.length sc w

end Go.Proofs.Ytanknjpcgceccaa
