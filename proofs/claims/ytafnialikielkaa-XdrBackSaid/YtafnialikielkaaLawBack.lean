/- The law's back: are items read from bytes, all of them, to the end? (Printed by wip/tools/gen_back.py.) -/
import Derived.Test.YtafnialikielkaaPlain
import Derived.OrdersHeld
import Derived.Laws.Strings
import Derived.Deep.RegionHeld3
namespace Go.Proofs.Ytafnialikielkaa
open Go.RowKit

theorem str_list (l : List UInt8) : (str l).toList = l := ByteArray.toList_eq _
theorem back_no {bs : List UInt8} {i : Itm} {l : List Itm} {at_ : Nat} {R : Bool} (h : backGo bs (i :: l) at_ = R) {g : Bool} {a' : Nat} {e' : Int} (hi : itemBack i bs at_ = (g, a', e')) (hn : ¬ (g = true ∧ e' = 0)) : R = false := by
  unfold backGo at h
  rw [hi, if_neg hn] at h
  exact h.symm
theorem back_yes {bs : List UInt8} {i : Itm} {l : List Itm} {at_ : Nat} {R : Bool} (h : backGo bs (i :: l) at_ = R) {g : Bool} {a' : Nat} {e' : Int} (hi : itemBack i bs at_ = (g, a', e')) (hn : g = true ∧ e' = 0) : backGo bs l a' = R := by
  unfold backGo at h
  rw [hi, if_pos hn] at h
  exact h

set_option maxRecDepth 100000 in
set_option maxHeartbeats 8000000 in
theorem back_any (w : World) (bo : Option Addr) (bcap : Nat) (bs : List UInt8) (hb : SlB w bo bcap bs) (hbig : bs.length ≤ 1000000000)
    (lo : Option Addr) (lc : Nat) (l : List Itm) (hl : Sl w 5 lo l.length lc (l.flatMap Itm.cells)) (hlo : ∀ k, rb lo l.length k → k < w.heap.size) (hg : ∀ i ∈ l, i.good w ∧ i.bs.length ≤ 1000000000) (hmax : l.length ≤ 9223372036854775807) :
    Calls Try.prog 30 #[.slice bo bs.length bcap, .slice lo l.length lc] w fun e w' => e = .returned (.bool (backGo bs l 0)) ∧ Mods (fun _ => False) w w' := by
  have HL := hid hl; have HLO := hid hlo; have HG := hid hg; have HB := hid hb; clear hl hlo hg hb
  obtain ⟨R, hR⟩ : ∃ R, R = backGo bs l 0 := ⟨_, rfl⟩
  rw [← hR]
  have hR' := hid hR
  clear hR
  go_enter Try.func30, Try.ntmps30
  go_wp2_with fail
  refine (NewReader_any _ _ _ _ HB.out hbig).mono ?_
  rintro e w1 ⟨p, ao, cap, rfl, hr, hp, hao, hm1⟩
  have hr' := hid hr
  have hm1' := hid (hm1.mono (G := fun k => w.heap.size ≤ k) fun _ _ h => h.elim)
  clear hr hm1 HB hao
  go_wp2
  go_loopw [6] (fun i wr => ∃ (k : Nat) (at_ : Nat), k ≤ l.length ∧ i = .int .i64 (k : Int) ∧
      RD wr p ao cap bs at_ 0 ∧ backGo bs (l.drop k) at_ = R ∧ Mods (fun k => w.heap.size ≤ k) w wr) (fun i _ => l.length - (intOf i).toNat)
  case atStart => exact ⟨0, 0, by omega, by go_num, hr'.out, hR'.out.symm, hm1'.out⟩
  case round =>
    obtain ⟨k, at_, hk, rfl, hw, hgo, hm⟩ := hrel
    have HW := hid hw; have HM := hid hm; have HGO := hid hgo; clear hw hm hgo hr' hm1' hR'
    by_cases hlt : k < l.length
    · obtain ⟨it, hit⟩ : ∃ i, i = l[k] := ⟨_, rfl⟩
      have hgood := hid (HG.out it (by rw [hit]; simp))
      have HC : Hid (∃ b o, lo = some ⟨b, o, none⟩ ∧ ∀ j u, it.cells[j]? = some u → wr.cell? ⟨b, o + k * 5 + j, none⟩ = some u) := by
        have h1 := (HL.out.below HLO.out HM.out).elem (f := Itm.cells) (fun _ => rfl) (by decide) hlt
        rw [← hit] at h1
        exact h1
      have HGO2 : Hid (backGo bs (it :: l.drop (k + 1)) at_ = R) := by
        have h1 := HGO.out
        rw [List.drop_eq_getElem_cons hlt, ← hit] at h1
        exact h1
      obtain ⟨kind, N, V, On, io, ic, ibs⟩ := it
      obtain ⟨b, o, rfl, hcell⟩ := HC.out
      have c0 : wr.cell? ⟨b, o + k * 5, none⟩ = some (.int .i64 kind) := hcell 0 _ rfl
      have c2 : wr.cell? ⟨b, o + k * 5 + 2, none⟩ = some (.int .u64 V) := hcell 2 _ rfl
      have c3 : wr.cell? ⟨b, o + k * 5 + 3, none⟩ = some (.bool On) := hcell 3 _ rfl
      have c4 : wr.cell? ⟨b, o + k * 5 + 4, none⟩ = some (.slice io ibs.length ic) := hcell 4 _ rfl
      have hbp : b ≠ p := fun e => by have := HLO.out b ⟨by omega, rfl⟩; omega
      have HBP := hid hbp
      have hsi := hid (hgood.out.1.sl.below hgood.out.1.lt HM.out)
      have hV0 := hgood.out.1.V.1
      have hlen : ibs.length ≤ 1000000000 := hgood.out.2
      have hiop : Hid (∀ k, rb io ibs.length k → ¬ k = p) := fun k hk e => by have := hgood.out.1.lt k hk; omega
      have HP := hid hp
      clear hcell HC hit HL HLO HG HGO hbp hp hgood
      have h5 : kind = 1 ∨ kind = 2 ∨ kind = 3 ∨ kind = 4 ∨ (kind ≠ 1 ∧ kind ≠ 2 ∧ kind ≠ 3 ∧ kind ≠ 4) := by omega
      rcases h5 with rfl | rfl | rfl | rfl | ⟨n1, n2, n3, n4⟩
      · have hib : itemBack ⟨1, N, V, On, io, ic, ibs⟩ bs at_ = (decide (((rnum 4 bs at_ 0).1 : Int) = V % 4294967296), (rnum 4 bs at_ 0).2) := by unfold itemBack; simp
        have H1 := fun (w' : World) h => RDU32_any p ao cap bs at_ 0 w' h
        generalize rnum 4 bs at_ 0 = x at H1 hib
        obtain ⟨v, a', e'⟩ := x
        simp only at H1 hib
        have K1 := hid H1
        have HIB := hid hib
        clear H1 hib
        go_wp2_with fail
        refine wp_region_held_drew (S := fun w' => w'.cell? ⟨b, o + k * 5 + 2, none⟩ = some (.int .u64 V)) (by kernel_rfl) ?hS (fun hHeld => ?_)
        case hS => simpa using c2
        refine wpAnyH_take (i := 0) (v := ?_) rfl (by kernel_rfl) (by kernel_rfl) (by kernel_rfl) (fun _ _ _ h => h) (Or.inl ⟨by rfl, ?hy⟩) hHeld ?_
        case hy => intro w hSw; (try dsimp only at hSw); go_simp; try with_reducible rfl
        simp only [Act.put]
        refine wpAnyH_take (i := 2) (v := ?_) rfl (by kernel_rfl) (by kernel_rfl) (by kernel_rfl) (fun _ _ _ h => h) (Or.inl ⟨by rfl, ?hy⟩) hHeld ?_
        case hy => intro w hSw; (try dsimp only at hSw); go_simp; try with_reducible rfl
        simp only [Act.put]
        refine wpAnyH_take (i := 3) (v := ?_) rfl (by kernel_rfl) (by kernel_rfl) (by kernel_rfl) (fun _ _ _ h => h) (Or.inl ⟨by rfl, ?hy⟩) hHeld ?_
        case hy => intro w hSw; (try dsimp only at hSw); go_simp; try with_reducible rfl
        simp only [Act.put]
        refine wpAnyH_take (i := 4) (v := ?_) rfl (by kernel_rfl) (by kernel_rfl) (by kernel_rfl) (fun _ _ _ h => h) (Or.inl ⟨by rfl, ?hy⟩) hHeld ?_
        case hy => intro w hSw; (try dsimp only at hSw); go_simp; try with_reducible rfl
        simp only [Act.put]
        refine wpAnyH_take (i := 5) (v := ?_) rfl (by kernel_rfl) (by kernel_rfl) (by kernel_rfl) (fun _ _ _ h => h) (Or.inl ⟨by rfl, ?hy⟩) hHeld ?_
        case hy => intro w hSw; (try dsimp only at hSw); go_simp; try with_reducible rfl
        simp only [Act.put]
        refine wpAnyH_take (i := 6) (v := ?_) rfl (by kernel_rfl) (by kernel_rfl) (by kernel_rfl) (fun _ _ _ h => h) (Or.inl ⟨by rfl, ?hy⟩) hHeld ?_
        case hy => intro w hSw; (try dsimp only at hSw); go_simp; try with_reducible rfl
        simp only [Act.put]
        refine wpAnyH_take (i := 7) (v := ?_) rfl (by kernel_rfl) (by kernel_rfl) (by kernel_rfl) (fun _ _ _ h => h) (Or.inl ⟨by rfl, ?hy⟩) hHeld ?_
        case hy => intro w hSw; (try dsimp only at hSw); go_simp; try with_reducible rfl
        simp only [Act.put]
        refine wpAnyH_ready (rs := [1]) (by kernel_rfl) (by simp) ?_
        refine AllReadyH.cons rfl (fun K hK => ?_) AllReadyH.nil
        go_simp
        refine (K1.out _ (HW.out.new (Mods.drew _ _))).mono ?_
        rintro e w2 ⟨rfl, hr2, hm2⟩
        have hr2' := hid hr2
        have hm2' := hid ((Mods.drew (fun k => k = p) wr).trans hm2)
        clear hr2 hm2
        go_simp
        refine hK.out _ _ ?hS (fun hHeld2 => ?_)
        case hS => exact hm2'.out.cell (by assumption) HBP.out
        clear hK K hHeld
        have hHeld := hHeld2
        clear hHeld2
        refine wpAnyH_take (i := 8) (v := ?_) rfl (by kernel_rfl) (by kernel_rfl) (by kernel_rfl) (fun _ _ _ h => h) (Or.inl ⟨by rfl, ?hy⟩) hHeld ?_
        case hy => intro w hSw; (try dsimp only at hSw); go_simp; try with_reducible rfl
        simp only [Act.put]
        refine wpAnyH_take (i := 9) (v := ?_) rfl (by kernel_rfl) (by kernel_rfl) (by kernel_rfl) (fun _ _ _ h => h) (Or.inl ⟨by rfl, ?hy⟩) hHeld ?_
        case hy => intro w hSw; (try dsimp only at hSw); go_simp; try with_reducible rfl
        simp only [Act.put]
        refine wpAnyH_done (by kernel_rfl) ?_ _
        clear hHeld c0 c2 c3 c4
        have hm3 := hid (HM.out.step hm2'.out fun k _ h => by have := HP.out; omega)
        have hnew := hid (hm3.out.mono (G := fun _ => False) fun k hk h => by omega)
        by_cases hgd : (v : Int) = V % 4294967296
        · by_cases he : e' = 0
          · have hnext := hid (back_yes HGO2.out HIB.out ⟨decide_eq_true hgd, he⟩)
            subst he
            go_wp2_with (go_at_call 26; refine (Err_any _ _ _ _ _ _ _ hr2'.out).mono ?_; rintro e w3 ⟨rfl, rfl⟩)
            go_roundw
            case rel => exact ⟨k + 1, a', by omega, by go_num, hr2'.out, hnext.out, hm3.out⟩
            case measure => simp [intOf]; omega
          · have hno := back_no HGO2.out HIB.out (fun h => he h.2)
            go_wp2_with (go_at_call 26; refine (Err_any _ _ _ _ _ _ _ hr2'.out).mono ?_; rintro e w3 ⟨rfl, rfl⟩)
            go_ret
            exact ⟨by subst hno; rfl, hnew.out⟩
        · have hno := back_no HGO2.out HIB.out (fun h => hgd (of_decide_eq_true h.1))
          go_wp2
          go_ret
          exact ⟨by subst hno; rfl, hnew.out⟩
      · have hib : itemBack ⟨2, N, V, On, io, ic, ibs⟩ bs at_ = (decide (((rnum 8 bs at_ 0).1 : Int) = V), (rnum 8 bs at_ 0).2) := by unfold itemBack; simp
        have H1 := fun (w' : World) h => RDU64_any p ao cap bs at_ 0 w' h
        generalize rnum 8 bs at_ 0 = x at H1 hib
        obtain ⟨v, a', e'⟩ := x
        simp only at H1 hib
        have K1 := hid H1
        have HIB := hid hib
        clear H1 hib
        go_wp2_with fail
        refine wp_region_held_drew (S := fun w' => w'.cell? ⟨b, o + k * 5 + 2, none⟩ = some (.int .u64 V)) (by kernel_rfl) ?hS (fun hHeld => ?_)
        case hS => simpa using c2
        refine wpAnyH_take (i := 0) (v := ?_) rfl (by kernel_rfl) (by kernel_rfl) (by kernel_rfl) (fun _ _ _ h => h) (Or.inl ⟨by rfl, ?hy⟩) hHeld ?_
        case hy => intro w hSw; (try dsimp only at hSw); go_simp; try with_reducible rfl
        simp only [Act.put]
        refine wpAnyH_take (i := 2) (v := ?_) rfl (by kernel_rfl) (by kernel_rfl) (by kernel_rfl) (fun _ _ _ h => h) (Or.inl ⟨by rfl, ?hy⟩) hHeld ?_
        case hy => intro w hSw; (try dsimp only at hSw); go_simp; try with_reducible rfl
        simp only [Act.put]
        refine wpAnyH_take (i := 3) (v := ?_) rfl (by kernel_rfl) (by kernel_rfl) (by kernel_rfl) (fun _ _ _ h => h) (Or.inl ⟨by rfl, ?hy⟩) hHeld ?_
        case hy => intro w hSw; (try dsimp only at hSw); go_simp; try with_reducible rfl
        simp only [Act.put]
        refine wpAnyH_take (i := 4) (v := ?_) rfl (by kernel_rfl) (by kernel_rfl) (by kernel_rfl) (fun _ _ _ h => h) (Or.inl ⟨by rfl, ?hy⟩) hHeld ?_
        case hy => intro w hSw; (try dsimp only at hSw); go_simp; try with_reducible rfl
        simp only [Act.put]
        refine wpAnyH_take (i := 5) (v := ?_) rfl (by kernel_rfl) (by kernel_rfl) (by kernel_rfl) (fun _ _ _ h => h) (Or.inl ⟨by rfl, ?hy⟩) hHeld ?_
        case hy => intro w hSw; (try dsimp only at hSw); go_simp; try with_reducible rfl
        simp only [Act.put]
        refine wpAnyH_take (i := 6) (v := ?_) rfl (by kernel_rfl) (by kernel_rfl) (by kernel_rfl) (fun _ _ _ h => h) (Or.inl ⟨by rfl, ?hy⟩) hHeld ?_
        case hy => intro w hSw; (try dsimp only at hSw); go_simp; try with_reducible rfl
        simp only [Act.put]
        refine wpAnyH_ready (rs := [1]) (by kernel_rfl) (by simp) ?_
        refine AllReadyH.cons rfl (fun K hK => ?_) AllReadyH.nil
        go_simp
        refine (K1.out _ (HW.out.new (Mods.drew _ _))).mono ?_
        rintro e w2 ⟨rfl, hr2, hm2⟩
        have hr2' := hid hr2
        have hm2' := hid ((Mods.drew (fun k => k = p) wr).trans hm2)
        clear hr2 hm2
        go_simp
        refine hK.out _ _ ?hS (fun hHeld2 => ?_)
        case hS => exact hm2'.out.cell (by assumption) HBP.out
        clear hK K hHeld
        have hHeld := hHeld2
        clear hHeld2
        refine wpAnyH_take (i := 7) (v := ?_) rfl (by kernel_rfl) (by kernel_rfl) (by kernel_rfl) (fun _ _ _ h => h) (Or.inl ⟨by rfl, ?hy⟩) hHeld ?_
        case hy => intro w hSw; (try dsimp only at hSw); go_simp; try with_reducible rfl
        simp only [Act.put]
        refine wpAnyH_take (i := 8) (v := ?_) rfl (by kernel_rfl) (by kernel_rfl) (by kernel_rfl) (fun _ _ _ h => h) (Or.inl ⟨by rfl, ?hy⟩) hHeld ?_
        case hy => intro w hSw; (try dsimp only at hSw); go_simp; try with_reducible rfl
        simp only [Act.put]
        refine wpAnyH_done (by kernel_rfl) ?_ _
        clear hHeld c0 c2 c3 c4
        have hm3 := hid (HM.out.step hm2'.out fun k _ h => by have := HP.out; omega)
        have hnew := hid (hm3.out.mono (G := fun _ => False) fun k hk h => by omega)
        by_cases hgd : (v : Int) = V
        · by_cases he : e' = 0
          · have hnext := hid (back_yes HGO2.out HIB.out ⟨decide_eq_true hgd, he⟩)
            subst he
            go_wp2_with (go_at_call 26; refine (Err_any _ _ _ _ _ _ _ hr2'.out).mono ?_; rintro e w3 ⟨rfl, rfl⟩)
            go_roundw
            case rel => exact ⟨k + 1, a', by omega, by go_num, hr2'.out, hnext.out, hm3.out⟩
            case measure => simp [intOf]; omega
          · have hno := back_no HGO2.out HIB.out (fun h => he h.2)
            go_wp2_with (go_at_call 26; refine (Err_any _ _ _ _ _ _ _ hr2'.out).mono ?_; rintro e w3 ⟨rfl, rfl⟩)
            go_ret
            exact ⟨by subst hno; rfl, hnew.out⟩
        · have hno := back_no HGO2.out HIB.out (fun h => hgd (of_decide_eq_true h.1))
          go_wp2
          go_ret
          exact ⟨by subst hno; rfl, hnew.out⟩
      · have hib : itemBack ⟨3, N, V, On, io, ic, ibs⟩ bs at_ = (decide ((rbool bs at_ 0).1 = On), (rbool bs at_ 0).2) := by unfold itemBack; simp
        have H1 := fun (w' : World) h => RDBool_any p ao cap bs at_ 0 w' h
        generalize rbool bs at_ 0 = x at H1 hib
        obtain ⟨v, a', e'⟩ := x
        simp only at H1 hib
        have K1 := hid H1
        have HIB := hid hib
        clear H1 hib
        go_wp2_with fail
        refine wp_region_held_drew (S := fun w' => w'.cell? ⟨b, o + k * 5 + 3, none⟩ = some (.bool On)) (by kernel_rfl) ?hS (fun hHeld => ?_)
        case hS => simpa using c3
        refine wpAnyH_take (i := 0) (v := ?_) rfl (by kernel_rfl) (by kernel_rfl) (by kernel_rfl) (fun _ _ _ h => h) (Or.inl ⟨by rfl, ?hy⟩) hHeld ?_
        case hy => intro w hSw; (try dsimp only at hSw); go_simp; try with_reducible rfl
        simp only [Act.put]
        refine wpAnyH_take (i := 2) (v := ?_) rfl (by kernel_rfl) (by kernel_rfl) (by kernel_rfl) (fun _ _ _ h => h) (Or.inl ⟨by rfl, ?hy⟩) hHeld ?_
        case hy => intro w hSw; (try dsimp only at hSw); go_simp; try with_reducible rfl
        simp only [Act.put]
        refine wpAnyH_take (i := 3) (v := ?_) rfl (by kernel_rfl) (by kernel_rfl) (by kernel_rfl) (fun _ _ _ h => h) (Or.inl ⟨by rfl, ?hy⟩) hHeld ?_
        case hy => intro w hSw; (try dsimp only at hSw); go_simp; try with_reducible rfl
        simp only [Act.put]
        refine wpAnyH_take (i := 4) (v := ?_) rfl (by kernel_rfl) (by kernel_rfl) (by kernel_rfl) (fun _ _ _ h => h) (Or.inl ⟨by rfl, ?hy⟩) hHeld ?_
        case hy => intro w hSw; (try dsimp only at hSw); go_simp; try with_reducible rfl
        simp only [Act.put]
        refine wpAnyH_take (i := 5) (v := ?_) rfl (by kernel_rfl) (by kernel_rfl) (by kernel_rfl) (fun _ _ _ h => h) (Or.inl ⟨by rfl, ?hy⟩) hHeld ?_
        case hy => intro w hSw; (try dsimp only at hSw); go_simp; try with_reducible rfl
        simp only [Act.put]
        refine wpAnyH_take (i := 6) (v := ?_) rfl (by kernel_rfl) (by kernel_rfl) (by kernel_rfl) (fun _ _ _ h => h) (Or.inl ⟨by rfl, ?hy⟩) hHeld ?_
        case hy => intro w hSw; (try dsimp only at hSw); go_simp; try with_reducible rfl
        simp only [Act.put]
        refine wpAnyH_ready (rs := [1]) (by kernel_rfl) (by simp) ?_
        refine AllReadyH.cons rfl (fun K hK => ?_) AllReadyH.nil
        go_simp
        refine (K1.out _ (HW.out.new (Mods.drew _ _))).mono ?_
        rintro e w2 ⟨rfl, hr2, hm2⟩
        have hr2' := hid hr2
        have hm2' := hid ((Mods.drew (fun k => k = p) wr).trans hm2)
        clear hr2 hm2
        go_simp
        refine hK.out _ _ ?hS (fun hHeld2 => ?_)
        case hS => exact hm2'.out.cell (by assumption) HBP.out
        clear hK K hHeld
        have hHeld := hHeld2
        clear hHeld2
        refine wpAnyH_take (i := 7) (v := ?_) rfl (by kernel_rfl) (by kernel_rfl) (by kernel_rfl) (fun _ _ _ h => h) (Or.inl ⟨by rfl, ?hy⟩) hHeld ?_
        case hy => intro w hSw; (try dsimp only at hSw); go_simp; try with_reducible rfl
        simp only [Act.put]
        refine wpAnyH_take (i := 8) (v := ?_) rfl (by kernel_rfl) (by kernel_rfl) (by kernel_rfl) (fun _ _ _ h => h) (Or.inl ⟨by rfl, ?hy⟩) hHeld ?_
        case hy => intro w hSw; (try dsimp only at hSw); go_simp; try with_reducible rfl
        simp only [Act.put]
        refine wpAnyH_done (by kernel_rfl) ?_ _
        clear hHeld c0 c2 c3 c4
        have hm3 := hid (HM.out.step hm2'.out fun k _ h => by have := HP.out; omega)
        have hnew := hid (hm3.out.mono (G := fun _ => False) fun k hk h => by omega)
        by_cases hgd : v = On
        · by_cases he : e' = 0
          · have hnext := hid (back_yes HGO2.out HIB.out ⟨decide_eq_true hgd, he⟩)
            subst he
            go_wp2_with (go_at_call 26; refine (Err_any _ _ _ _ _ _ _ hr2'.out).mono ?_; rintro e w3 ⟨rfl, rfl⟩)
            go_roundw
            case rel => exact ⟨k + 1, a', by omega, by go_num, hr2'.out, hnext.out, hm3.out⟩
            case measure => simp [intOf]; omega
          · have hno := back_no HGO2.out HIB.out (fun h => he h.2)
            go_wp2_with (go_at_call 26; refine (Err_any _ _ _ _ _ _ _ hr2'.out).mono ?_; rintro e w3 ⟨rfl, rfl⟩)
            go_ret
            exact ⟨by subst hno; rfl, hnew.out⟩
        · have hno := back_no HGO2.out HIB.out (fun h => hgd (of_decide_eq_true h.1))
          go_wp2
          go_ret
          exact ⟨by subst hno; rfl, hnew.out⟩
      · have hib : itemBack ⟨4, N, V, On, io, ic, ibs⟩ bs at_ = (decide ((rbytes ibs.length bs at_ 0).1 = ibs), (rbytes ibs.length bs at_ 0).2) := by unfold itemBack; simp
        have H1 := fun (w' : World) h => RDBytes_any ibs.length p ao cap bs at_ 0 w' h
        generalize rbytes ibs.length bs at_ 0 = x at H1 hib
        obtain ⟨v, a', e'⟩ := x
        simp only at H1 hib
        have K1 := hid H1
        have HIB := hid hib
        clear H1 hib
        go_wp2_with fail
        have hcv0 := run_conv (hsi.out.keep (Mods.drew (fun _ => False) wr) (fun _ _ h => h))
        refine wp_region_held_drew (S := fun w' => w'.cell? ⟨b, o + k * 5 + 4, none⟩ = some (.slice io ibs.length ic) ∧ (convert 27 9 (.slice io ibs.length ic)).run Try.prog w' = .ok (.string (str ibs)) w') (by kernel_rfl) ?hS (fun hHeld => ?_)
        case hS => exact ⟨by simpa using c4, hcv0⟩
        refine wpAnyH_take (i := 0) (v := ?_) rfl (by kernel_rfl) (by kernel_rfl) (by kernel_rfl) (fun _ _ _ h => h) (Or.inl ⟨by rfl, ?hy⟩) hHeld ?_
        case hy => intro w hSw; (try dsimp only at hSw); go_simp; try with_reducible rfl
        simp only [Act.put]
        refine wpAnyH_take (i := 1) (v := ?_) rfl (by kernel_rfl) (by kernel_rfl) (by kernel_rfl) (fun _ _ _ h => h) (Or.inl ⟨by rfl, ?hy⟩) hHeld ?_
        case hy => intro w hSw; (try dsimp only at hSw); go_simp; try with_reducible rfl
        simp only [Act.put]
        refine wpAnyH_take (i := 2) (v := ?_) rfl (by kernel_rfl) (by kernel_rfl) (by kernel_rfl) (fun _ _ _ h => h) (Or.inl ⟨by rfl, ?hy⟩) hHeld ?_
        case hy => intro w hSw; (try dsimp only at hSw); go_simp; try with_reducible rfl
        simp only [Act.put]
        refine wpAnyH_take (i := 3) (v := ?_) rfl (by kernel_rfl) (by kernel_rfl) (by kernel_rfl) (fun _ _ _ h => h) (Or.inl ⟨by rfl, ?hy⟩) hHeld ?_
        case hy => intro w hSw; (try dsimp only at hSw); go_simp; try with_reducible rfl
        simp only [Act.put]
        refine wpAnyH_take (i := 4) (v := ?_) rfl (by kernel_rfl) (by kernel_rfl) (by kernel_rfl) (fun _ _ _ h => h) (Or.inl ⟨by rfl, ?hy⟩) hHeld ?_
        case hy => intro w hSw; (try dsimp only at hSw); go_simp; try with_reducible rfl
        simp only [Act.put]
        refine wpAnyH_take (i := 5) (v := ?_) rfl (by kernel_rfl) (by kernel_rfl) (by kernel_rfl) (fun _ _ _ h => h) (Or.inl ⟨by rfl, ?hy⟩) hHeld ?_
        case hy => intro w hSw; (try dsimp only at hSw); go_simp; try with_reducible rfl
        simp only [Act.put]
        refine wpAnyH_take (i := 6) (v := ?_) rfl (by kernel_rfl) (by kernel_rfl) (by kernel_rfl) (fun _ _ _ h => h) (Or.inl ⟨by rfl, ?hy⟩) hHeld ?_
        case hy => intro w hSw; (try dsimp only at hSw); go_simp; try with_reducible rfl
        simp only [Act.put]
        refine wpAnyH_take (i := 9) (v := ?_) rfl (by kernel_rfl) (by kernel_rfl) (by kernel_rfl) (fun _ _ _ h => h) (Or.inl ⟨by rfl, ?hy⟩) hHeld ?_
        case hy => intro w hSw; (try dsimp only at hSw); go_simp; try with_reducible rfl
        simp only [Act.put]
        refine wpAnyH_take (i := 10) (v := ?_) rfl (by kernel_rfl) (by kernel_rfl) (by kernel_rfl) (fun _ _ _ h => h) (Or.inl ⟨by rfl, ?hy⟩) hHeld ?_
        case hy => intro w hSw; (try dsimp only at hSw); go_simp; try with_reducible rfl
        simp only [Act.put]
        refine wpAnyH_take (i := 11) (v := ?_) rfl (by kernel_rfl) (by kernel_rfl) (by kernel_rfl) (fun _ _ _ h => h) (Or.inl ⟨by rfl, ?hy⟩) hHeld ?_
        case hy => intro w hSw; (try dsimp only at hSw); go_simp; try with_reducible rfl
        simp only [Act.put]
        refine wpAnyH_take (i := 12) (v := ?_) rfl (by kernel_rfl) (by kernel_rfl) (by kernel_rfl) (fun _ _ _ h => h) (Or.inl ⟨by rfl, ?hy⟩) hHeld ?_
        case hy => intro w hSw; (try dsimp only at hSw); go_simp; try with_reducible rfl
        simp only [Act.put]
        refine wpAnyH_take (i := 13) (v := ?_) rfl (by kernel_rfl) (by kernel_rfl) (by kernel_rfl) (fun _ _ _ h => h) (Or.inl ⟨by rfl, ?hy⟩) hHeld ?_
        case hy => intro w hSw; (try dsimp only at hSw); go_simp; try with_reducible rfl
        simp only [Act.put]
        refine wpAnyH_take (i := 14) (v := ?_) rfl (by kernel_rfl) (by kernel_rfl) (by kernel_rfl) (fun _ _ _ h => h) (Or.inl ⟨by rfl, ?hy⟩) hHeld ?_
        case hy => intro w hSw; (try dsimp only at hSw); go_simp; try with_reducible rfl
        simp only [Act.put]
        refine wpAnyH_ready (rs := [7]) (by kernel_rfl) (by simp) ?_
        refine AllReadyH.cons rfl (fun K hK => ?_) AllReadyH.nil
        go_simp
        refine (K1.out _ (HW.out.new (Mods.drew _ _))).mono ?_
        rintro e w2 ⟨xo, xc, rfl, ho2, hf2, hr2, hm2⟩
        have hr2' := hid hr2
        have hm2' := hid ((Mods.drew (fun k => k = p) wr).trans hm2)
        have hcv1 := run_conv ho2.sl
        have hcv2 := run_conv (hsi.out.keep hm2'.out hiop.out)
        clear hr2 hm2 ho2 hf2
        go_simp
        refine hK.out _ _ ?hS (fun hHeld2 => ?_)
        case hS => exact ⟨hm2'.out.cell (by assumption) HBP.out, hcv2⟩
        clear hK K hHeld
        have hHeld := hHeld2
        clear hHeld2
        refine wpAnyH_ready (rs := [8]) (by kernel_rfl) (by simp) ?_
        refine AllReadyH.cons rfl (fun K hK => ?_) AllReadyH.nil
        go_simp
        refine hK.out _ _ ?hS (fun hHeld2 => ?_)
        case hS => exact hHeld
        clear hK K hHeld
        have hHeld := hHeld2
        clear hHeld2
        refine wpAnyH_take (i := 15) (v := ?_) rfl (by kernel_rfl) (by kernel_rfl) (by kernel_rfl) (fun _ _ _ h => h) (Or.inl ⟨by rfl, ?hy⟩) hHeld ?_
        case hy => intro w hSw; (try dsimp only at hSw); go_simp; try with_reducible rfl
        simp only [Act.put]
        refine wpAnyH_take (i := 16) (v := ?_) rfl (by kernel_rfl) (by kernel_rfl) (by kernel_rfl) (fun _ _ _ h => h) (Or.inl ⟨by rfl, ?hy⟩) hHeld ?_
        case hy => intro w hSw; (try dsimp only at hSw); go_simp; try with_reducible rfl
        simp only [Act.put]
        refine wpAnyH_done (by kernel_rfl) ?_ _
        clear hHeld c0 c2 c3 c4
        have hm3 := hid (HM.out.step hm2'.out fun k _ h => by have := HP.out; omega)
        have hnew := hid (hm3.out.mono (G := fun _ => False) fun k hk h => by omega)
        by_cases hgd : v = ibs
        · by_cases he : e' = 0
          · have hgd2 : str v = str ibs := by rw [hgd]
            have hnext := hid (back_yes HGO2.out HIB.out ⟨decide_eq_true hgd, he⟩)
            subst he
            go_wp2_with (go_at_call 26; refine (Err_any _ _ _ _ _ _ _ hr2'.out).mono ?_; rintro e w3 ⟨rfl, rfl⟩)
            go_roundw
            case rel => exact ⟨k + 1, a', by omega, by go_num, hr2'.out, hnext.out, hm3.out⟩
            case measure => simp [intOf]; omega
          · have hno := back_no HGO2.out HIB.out (fun h => he h.2)
            go_wp2_with (go_at_call 26; refine (Err_any _ _ _ _ _ _ _ hr2'.out).mono ?_; rintro e w3 ⟨rfl, rfl⟩)
            go_ret
            exact ⟨by subst hno; rfl, hnew.out⟩
        · have hno := back_no HGO2.out HIB.out (fun h => hgd (of_decide_eq_true h.1))
          have hs1 := str_list v
          have hs2 := str_list ibs
          go_wp2
          go_ret
          exact ⟨by subst hno; rfl, hnew.out⟩
      · have m1 : (kind == 1) = false := by simpa using n1
        have m2 : (kind == 2) = false := by simpa using n2
        have m3 : (kind == 3) = false := by simpa using n3
        have m4 : (kind == 4) = false := by simpa using n4
        have hib : itemBack ⟨kind, N, V, On, io, ic, ibs⟩ bs at_ = (decide ((rfixed ibs.length bs at_ 0).1 = ibs), (rfixed ibs.length bs at_ 0).2) := by unfold itemBack; simp [n1, n2, n3, n4]
        have H1 := fun (w' : World) h => RDFixed_any ibs.length (by omega) (by omega) p ao cap bs at_ 0 w' h
        generalize rfixed ibs.length bs at_ 0 = x at H1 hib
        obtain ⟨v, a', e'⟩ := x
        simp only at H1 hib
        have K1 := hid H1
        have HIB := hid hib
        clear H1 hib
        go_wp2_with fail
        have hcv0 := run_conv (hsi.out.keep (Mods.drew (fun _ => False) wr) (fun _ _ h => h))
        refine wp_region_held_drew (S := fun w' => w'.cell? ⟨b, o + k * 5 + 4, none⟩ = some (.slice io ibs.length ic) ∧ (convert 27 9 (.slice io ibs.length ic)).run Try.prog w' = .ok (.string (str ibs)) w') (by kernel_rfl) ?hS (fun hHeld => ?_)
        case hS => exact ⟨by simpa using c4, hcv0⟩
        refine wpAnyH_take (i := 0) (v := ?_) rfl (by kernel_rfl) (by kernel_rfl) (by kernel_rfl) (fun _ _ _ h => h) (Or.inl ⟨by rfl, ?hy⟩) hHeld ?_
        case hy => intro w hSw; (try dsimp only at hSw); go_simp; try with_reducible rfl
        simp only [Act.put]
        refine wpAnyH_take (i := 1) (v := ?_) rfl (by kernel_rfl) (by kernel_rfl) (by kernel_rfl) (fun _ _ _ h => h) (Or.inl ⟨by rfl, ?hy⟩) hHeld ?_
        case hy => intro w hSw; (try dsimp only at hSw); go_simp; try with_reducible rfl
        simp only [Act.put]
        refine wpAnyH_take (i := 2) (v := ?_) rfl (by kernel_rfl) (by kernel_rfl) (by kernel_rfl) (fun _ _ _ h => h) (Or.inl ⟨by rfl, ?hy⟩) hHeld ?_
        case hy => intro w hSw; (try dsimp only at hSw); go_simp; try with_reducible rfl
        simp only [Act.put]
        refine wpAnyH_take (i := 3) (v := ?_) rfl (by kernel_rfl) (by kernel_rfl) (by kernel_rfl) (fun _ _ _ h => h) (Or.inl ⟨by rfl, ?hy⟩) hHeld ?_
        case hy => intro w hSw; (try dsimp only at hSw); go_simp; try with_reducible rfl
        simp only [Act.put]
        refine wpAnyH_take (i := 4) (v := ?_) rfl (by kernel_rfl) (by kernel_rfl) (by kernel_rfl) (fun _ _ _ h => h) (Or.inl ⟨by rfl, ?hy⟩) hHeld ?_
        case hy => intro w hSw; (try dsimp only at hSw); go_simp; try with_reducible rfl
        simp only [Act.put]
        refine wpAnyH_take (i := 5) (v := ?_) rfl (by kernel_rfl) (by kernel_rfl) (by kernel_rfl) (fun _ _ _ h => h) (Or.inl ⟨by rfl, ?hy⟩) hHeld ?_
        case hy => intro w hSw; (try dsimp only at hSw); go_simp; try with_reducible rfl
        simp only [Act.put]
        refine wpAnyH_take (i := 6) (v := ?_) rfl (by kernel_rfl) (by kernel_rfl) (by kernel_rfl) (fun _ _ _ h => h) (Or.inl ⟨by rfl, ?hy⟩) hHeld ?_
        case hy => intro w hSw; (try dsimp only at hSw); go_simp; try with_reducible rfl
        simp only [Act.put]
        refine wpAnyH_take (i := 9) (v := ?_) rfl (by kernel_rfl) (by kernel_rfl) (by kernel_rfl) (fun _ _ _ h => h) (Or.inl ⟨by rfl, ?hy⟩) hHeld ?_
        case hy => intro w hSw; (try dsimp only at hSw); go_simp; try with_reducible rfl
        simp only [Act.put]
        refine wpAnyH_take (i := 10) (v := ?_) rfl (by kernel_rfl) (by kernel_rfl) (by kernel_rfl) (fun _ _ _ h => h) (Or.inl ⟨by rfl, ?hy⟩) hHeld ?_
        case hy => intro w hSw; (try dsimp only at hSw); go_simp; try with_reducible rfl
        simp only [Act.put]
        refine wpAnyH_take (i := 11) (v := ?_) rfl (by kernel_rfl) (by kernel_rfl) (by kernel_rfl) (fun _ _ _ h => h) (Or.inl ⟨by rfl, ?hy⟩) hHeld ?_
        case hy => intro w hSw; (try dsimp only at hSw); go_simp; try with_reducible rfl
        simp only [Act.put]
        refine wpAnyH_take (i := 12) (v := ?_) rfl (by kernel_rfl) (by kernel_rfl) (by kernel_rfl) (fun _ _ _ h => h) (Or.inl ⟨by rfl, ?hy⟩) hHeld ?_
        case hy => intro w hSw; (try dsimp only at hSw); go_simp; try with_reducible rfl
        simp only [Act.put]
        refine wpAnyH_take (i := 13) (v := ?_) rfl (by kernel_rfl) (by kernel_rfl) (by kernel_rfl) (fun _ _ _ h => h) (Or.inl ⟨by rfl, ?hy⟩) hHeld ?_
        case hy => intro w hSw; (try dsimp only at hSw); go_simp; try with_reducible rfl
        simp only [Act.put]
        refine wpAnyH_take (i := 14) (v := ?_) rfl (by kernel_rfl) (by kernel_rfl) (by kernel_rfl) (fun _ _ _ h => h) (Or.inl ⟨by rfl, ?hy⟩) hHeld ?_
        case hy => intro w hSw; (try dsimp only at hSw); go_simp; try with_reducible rfl
        simp only [Act.put]
        refine wpAnyH_ready (rs := [7]) (by kernel_rfl) (by simp) ?_
        refine AllReadyH.cons rfl (fun K hK => ?_) AllReadyH.nil
        go_simp
        refine (K1.out _ (HW.out.new (Mods.drew _ _))).mono ?_
        rintro e w2 ⟨xo, xc, rfl, ho2, hf2, hr2, hm2⟩
        have hr2' := hid hr2
        have hm2' := hid ((Mods.drew (fun k => k = p) wr).trans hm2)
        have hcv1 := run_conv ho2.sl
        have hcv2 := run_conv (hsi.out.keep hm2'.out hiop.out)
        clear hr2 hm2 ho2 hf2
        go_simp
        refine hK.out _ _ ?hS (fun hHeld2 => ?_)
        case hS => exact ⟨hm2'.out.cell (by assumption) HBP.out, hcv2⟩
        clear hK K hHeld
        have hHeld := hHeld2
        clear hHeld2
        refine wpAnyH_ready (rs := [8]) (by kernel_rfl) (by simp) ?_
        refine AllReadyH.cons rfl (fun K hK => ?_) AllReadyH.nil
        go_simp
        refine hK.out _ _ ?hS (fun hHeld2 => ?_)
        case hS => exact hHeld
        clear hK K hHeld
        have hHeld := hHeld2
        clear hHeld2
        refine wpAnyH_take (i := 15) (v := ?_) rfl (by kernel_rfl) (by kernel_rfl) (by kernel_rfl) (fun _ _ _ h => h) (Or.inl ⟨by rfl, ?hy⟩) hHeld ?_
        case hy => intro w hSw; (try dsimp only at hSw); go_simp; try with_reducible rfl
        simp only [Act.put]
        refine wpAnyH_take (i := 16) (v := ?_) rfl (by kernel_rfl) (by kernel_rfl) (by kernel_rfl) (fun _ _ _ h => h) (Or.inl ⟨by rfl, ?hy⟩) hHeld ?_
        case hy => intro w hSw; (try dsimp only at hSw); go_simp; try with_reducible rfl
        simp only [Act.put]
        refine wpAnyH_done (by kernel_rfl) ?_ _
        clear hHeld c0 c2 c3 c4
        have hm3 := hid (HM.out.step hm2'.out fun k _ h => by have := HP.out; omega)
        have hnew := hid (hm3.out.mono (G := fun _ => False) fun k hk h => by omega)
        by_cases hgd : v = ibs
        · by_cases he : e' = 0
          · have hgd2 : str v = str ibs := by rw [hgd]
            have hnext := hid (back_yes HGO2.out HIB.out ⟨decide_eq_true hgd, he⟩)
            subst he
            go_wp2_with (go_at_call 26; refine (Err_any _ _ _ _ _ _ _ hr2'.out).mono ?_; rintro e w3 ⟨rfl, rfl⟩)
            go_roundw
            case rel => exact ⟨k + 1, a', by omega, by go_num, hr2'.out, hnext.out, hm3.out⟩
            case measure => simp [intOf]; omega
          · have hno := back_no HGO2.out HIB.out (fun h => he h.2)
            go_wp2_with (go_at_call 26; refine (Err_any _ _ _ _ _ _ _ hr2'.out).mono ?_; rintro e w3 ⟨rfl, rfl⟩)
            go_ret
            exact ⟨by subst hno; rfl, hnew.out⟩
        · have hno := back_no HGO2.out HIB.out (fun h => hgd (of_decide_eq_true h.1))
          have hs1 := str_list v
          have hs2 := str_list ibs
          go_wp2
          go_ret
          exact ⟨by subst hno; rfl, hnew.out⟩
    · have hkl : k = l.length := by omega
      have hfin : Hid (R = decide (at_ = bs.length)) := by
        have h1 := HGO.out
        rw [hkl, List.drop_length] at h1
        exact h1.symm
      have hle := HW.out.le
      have hLeft := hid (Left_any p ao cap bs at_ 0 wr HW.out)
      by_cases hat : at_ = bs.length
      · subst hat
        have hfin2 := hid (hfin.out.trans (decide_eq_true rfl))
        go_wp2_with (first | (go_at_call 25; refine hLeft.out.mono ?_; rintro e w3 ⟨rfl, hq3⟩; have hr3 := hid (HW.out.quiet hq3); have hm3 := hid (HM.out.trans (hq3.mods _))) | (go_at_call 24; refine (At_any _ _ _ _ _ _ _ hr3.out).mono ?_; rintro e w4 ⟨rfl, rfl⟩))
        go_ret
        exact ⟨by rw [hfin2.out]; rfl, hm3.out.mono fun k hk h => by omega⟩
      · have hsub : ¬ ((bs.length : Int) - (at_ : Int) = 0) := by omega
        have hfin2 := hid (hfin.out.trans (decide_eq_false hat))
        go_wp2_with (go_at_call 25; refine hLeft.out.mono ?_; rintro e w3 ⟨rfl, hq3⟩; have hm3 := hid (HM.out.trans (hq3.mods _)))
        go_ret
        exact ⟨by rw [hfin2.out]; rfl, hm3.out.mono fun k hk h => by omega⟩

end Go.Proofs.Ytafnialikielkaa
