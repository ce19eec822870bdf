/- Lines of a directory: what is written is read again, and the other way round. Plain, no program. -/
import Derived.Test.YtanknjpcgceccaaTwoA
import Derived.Test.YtanknjpcgceccaaGen27
import Derived.Test.YtanknjpcgceccaaGen28
namespace Go.Proofs.Ytanknjpcgceccaa

theorem rbool_full {v : Bool} {inp suf : List UInt8} {pos : Nat} (hD : inp.drop pos = be 4 (boolNum v) ++ suf) (hle : pos ≤ inp.length) : rbool inp pos 0 = (v, pos + 4, 0) := by
  have hr := rnum_full hD hle (by cases v <;> simp [boolNum]) (by cases v <;> simp [boolNum])
  simp only [rbool, hr]
  cases v <;> simp [boolNum]
theorem rbool_back {inp : List UInt8} {pos p2 : Nat} {v : Bool} (h : rbool inp pos 0 = (v, p2, 0)) : pos ≤ p2 ∧ p2 ≤ inp.length ∧ be 4 (boolNum v) = (inp.drop pos).take (p2 - pos) := by
  obtain ⟨⟨m, p', e'⟩, hr'⟩ : ∃ r : Nat × Nat × Int, rnum 4 inp pos 0 = r := ⟨_, rfl⟩
  unfold rbool at h
  rw [hr'] at h
  simp only at h
  split at h
  · simp at h
  · rename_i hm
    simp only [Prod.mk.injEq] at h
    obtain ⟨rfl, rfl, rfl⟩ := h
    obtain ⟨q1, q2, q3, _⟩ := rnum_back hr'
    have hbn : boolNum (m == 1) = (m : Int) := by
      have : m = 0 ∨ m = 1 := by omega
      rcases this with rfl | rfl <;> rfl
    exact ⟨by omega, q2, by rw [hbn, q3]⟩
theorem clean_oneLine {plus : Bool} {s : St} {e : EntryV} (h : Clean (oneLine plus s e).2) : Clean s := (two_entry plus).clean (s, e.at) h
theorem like_oneLine (plus : Bool) (s : St) (e : EntryV) : Like (oneLine plus s e).2 s := like_pEntry _ _ _
theorem clean_lines {plus : Bool} (n : Nat) : ∀ {i : Nat} {es : List EntryV} {s : St}, Clean (lines plus n i es s).2 → Clean s := by
  induction n with
  | zero => intro i es s h; exact h
  | succ n ih =>
    intro i es s h
    rw [lines] at h
    split at h
    · exact h
    · simp only at h
      split at h
      · exact clean_truth h
      · have h1 := clean_oneLine (ih h)
        split at h1
        · exact clean_truth (clean_must h1).1
        · exact clean_truth h1
theorem oneLine_ok {plus : Bool} {s : St} {e : EntryV} (h : e.ok) : (oneLine plus s e).1.ok := ok_of ((two_entry plus).ty (s, e.at) h)

theorem lines_wr (plus : Bool) (n : Nat) : ∀ (i : Nat) (es : List EntryV) (out out2 : List UInt8), i ≤ es.length → es.length ≤ 1024 → (∀ e ∈ es, e.ok) → es.length < i + n → (lines plus n i es (.wr false out)).2 = .wr false out2 →
    ∃ u, out2 = out ++ u ∧ u.length % 4 = 0 ∧ ∀ (inp : List UInt8) (rs : List EntryV) (m : Nat), (out ++ u) <+: inp → rs.length = i → es.length < i + m → (lines plus m i rs (.rd inp out.length 0 false)).2 = .rd inp (out ++ u).length 0 false := by
  induction n with
  | zero => intro i es out out2 h1 h2 h3 h4 h5; omega
  | succ n ih =>
    intro i es out out2 h1 h2 h3 h4 h5
    have hrd : ∀ (v : Bool) (u inp : List UInt8), (out ++ (be 4 (boolNum v) ++ u)) <+: inp → rbool inp out.length 0 = (v, out.length + 4, 0) := fun v u inp hp => by
      obtain ⟨suf, q1, q2⟩ := drop_pre hp
      exact rbool_full (suf := u ++ suf) (by rw [q1, List.append_assoc]) q2
    by_cases hi : i = es.length
    · have ht : (St.wr false out).truth (decide ((i : Int) < (es.length : Int))) = (false, .wr false (out ++ be 4 (boolNum false))) := by rw [decide_eq_false (by omega)]; rfl
      rw [lines_stop rfl ht rfl] at h5
      have h5' : out ++ be 4 (boolNum false) = out2 := by simpa using h5
      refine ⟨be 4 (boolNum false), h5'.symm, by rw [be_length], fun inp rs m hp hrs hm => ?_⟩
      obtain ⟨m', rfl⟩ : ∃ m', m = m' + 1 := ⟨m - 1, by omega⟩
      have hb := hrd false [] inp (by rw [List.append_nil]; exact hp)
      have hs : (St.rd inp out.length 0 false).truth (decide ((i : Int) < (rs.length : Int))) = (false, .rd inp (out.length + 4) 0 false) := by simp only [St.truth, hb]
      rw [lines_stop rfl hs rfl]
      simp [be_length]
    · have hlt : i < es.length := by omega
      have ht : (St.wr false out).truth (decide ((i : Int) < (es.length : Int))) = (true, .wr false (out ++ be 4 (boolNum true))) := by rw [decide_eq_true (by omega)]; rfl
      obtain ⟨e1, he1⟩ : ∃ e, es[i]? = some e := ⟨_, List.getElem?_eq_getElem hlt⟩
      rw [lines_go rfl ht rfl (if_neg hi) (if_neg hi) he1] at h5
      have hok1 : e1.ok := h3 e1 (List.mem_of_getElem? he1)
      have hcq := clean_lines n (by rw [h5]; rfl)
      obtain ⟨o1, hq⟩ := clean_wr (out := []) hcq (like_oneLine _ _ _) rfl
      have hq' : (pEntry plus 0 (.wr false (out ++ be 4 (boolNum true)), e1.at)).1 = .wr false o1 := hq
      obtain ⟨d, rfl, md, rd⟩ := (two_entry plus).wr e1.at _ _ hok1 hq'
      rw [hq] at h5
      obtain ⟨u, rfl, mu, ru⟩ := ih (i + 1) (es.set i (oneLine plus (.wr false (out ++ be 4 (boolNum true))) e1).1) _ out2 (by rw [List.length_set]; omega) (by rw [List.length_set]; exact h2) (fun e he => by
        rcases List.mem_or_eq_of_mem_set he with he | rfl
        · exact h3 e he
        · exact oneLine_ok hok1) (by rw [List.length_set]; omega) h5
      refine ⟨be 4 (boolNum true) ++ (d ++ u), by simp only [List.append_assoc], by simp only [List.length_append, be_length]; omega, fun inp rs m hp hrs hm => ?_⟩
      obtain ⟨m', rfl⟩ : ∃ m', m = m' + 1 := ⟨m - 1, by omega⟩
      have hb := hrd true (d ++ u) inp hp
      have hs : (St.rd inp out.length 0 false).truth (decide ((i : Int) < (rs.length : Int))) = (true, .rd inp (out.length + 4) 0 false) := by simp only [St.truth, hb]
      have hs1 : (if i = rs.length then (St.rd inp (out.length + 4) 0 false).must (decide ((i : Int) < 1024)) else (St.rd inp (out.length + 4) 0 false)) = .rd inp (out.length + 4) 0 false := by
        rw [if_pos hrs.symm, decide_eq_true (by omega)]; rfl
      rw [lines_go (e1 := zeroE) rfl hs rfl (if_pos hrs.symm) hs1 (by rw [← hrs]; simp)]
      have hp2 : (out ++ be 4 (boolNum true) ++ d) <+: inp := by
        refine List.IsPrefix.trans (l₂ := out ++ (be 4 (boolNum true) ++ (d ++ u))) ?_ hp
        exact ⟨u, by simp only [List.append_assoc]⟩
      have hz := (rd inp zeroE.at zeroE_ok hp2).1
      have hl1 : (out ++ be 4 (boolNum true)).length = out.length + 4 := by rw [List.length_append, be_length]
      rw [hl1] at hz
      have hz' : (oneLine plus (.rd inp (out.length + 4) 0 false) zeroE).2 = .rd inp (out ++ be 4 (boolNum true) ++ d).length 0 false := hz
      rw [hz']
      have := ru inp ((rs ++ [zeroE]).set i (oneLine plus (.rd inp (out.length + 4) 0 false) zeroE).1) m' (by simpa only [List.append_assoc] using hp) (by simp [hrs]) (by rw [List.length_set]; omega)
      rw [this]
      simp only [List.append_assoc]

theorem lines_back (plus : Bool) (m : Nat) : ∀ (i : Nat) (rs : List EntryV) (inp : List UInt8) (pos p2 : Nat), rs.length = i → i ≤ 1024 → 1025 ≤ i + m → pos ≤ inp.length → (lines plus m i rs (.rd inp pos 0 false)).2 = .rd inp p2 0 false →
    pos ≤ p2 ∧ p2 ≤ inp.length ∧ rs <+: (lines plus m i rs (.rd inp pos 0 false)).1 ∧ (lines plus m i rs (.rd inp pos 0 false)).1.length ≤ 1024 ∧
    ∀ (out : List UInt8) (n : Nat), (lines plus m i rs (.rd inp pos 0 false)).1.length < i + n → (lines plus n i (lines plus m i rs (.rd inp pos 0 false)).1 (.wr false out)).2 = .wr false (out ++ (inp.drop pos).take (p2 - pos)) := by
  induction m with
  | zero => intro i rs inp pos p2 h1 h2 h3; omega
  | succ m ih =>
    intro i rs inp pos p2 h1 h2 h3 h4 h5
    obtain ⟨⟨t, p1, e1⟩, hb⟩ : ∃ r : Bool × Nat × Int, rbool inp pos 0 = r := ⟨_, rfl⟩
    have hs : (St.rd inp pos 0 false).truth (decide ((i : Int) < (rs.length : Int))) = (t, .rd inp p1 e1 false) := by simp only [St.truth, hb]
    by_cases hst : (!t || e1 != 0) = true
    · have el : lines plus (m + 1) i rs (.rd inp pos 0 false) = (rs, .rd inp p1 e1 false) := lines_stop rfl hs hst
      rw [el] at h5 ⊢
      simp only [St.rd.injEq, true_and, and_true] at h5
      obtain ⟨rfl, rfl⟩ := h5
      have htf : t = false := by simpa using hst
      subst htf
      obtain ⟨q1, q2, q3⟩ := rbool_back hb
      refine ⟨q1, q2, List.prefix_refl _, by show rs.length ≤ 1024; omega, fun out n hn => ?_⟩
      have hn' : rs.length < i + n := hn
      obtain ⟨n', rfl⟩ : ∃ n', n = n' + 1 := ⟨n - 1, by omega⟩
      have ht : (St.wr false out).truth (decide ((i : Int) < (rs.length : Int))) = (false, .wr false (out ++ be 4 (boolNum false))) := by rw [decide_eq_false (by omega)]; rfl
      rw [lines_stop rfl ht rfl, q3]
    · have h0 : t = true ∧ e1 = 0 := by
        cases t
        · simp at hst
        · refine ⟨rfl, ?_⟩
          simpa using hst
      obtain ⟨rfl, rfl⟩ := h0
      obtain ⟨q1, q2, q3⟩ := rbool_back hb
      obtain ⟨s1, hs1⟩ : ∃ s, (if i = rs.length then (St.rd inp p1 0 false).must (decide ((i : Int) < 1024)) else (St.rd inp p1 0 false)) = s := ⟨_, rfl⟩
      have el : lines plus (m + 1) i rs (.rd inp pos 0 false) = lines plus m (i + 1) ((rs ++ [zeroE]).set i (oneLine plus s1 zeroE).1) (oneLine plus s1 zeroE).2 := lines_go rfl hs rfl (if_pos h1.symm) hs1 (by rw [← h1]; simp)
      rw [el] at h5 ⊢
      have hset : (rs ++ [zeroE]).set i (oneLine plus s1 zeroE).1 = rs ++ [(oneLine plus s1 zeroE).1] := by rw [← h1]; simp
      rw [hset] at h5 ⊢
      have hcq := clean_lines m (by rw [h5]; exact ⟨rfl, rfl⟩)
      have hc1 := clean_oneLine hcq
      rw [if_pos h1.symm] at hs1
      have hi : (i : Int) < 1024 := by
        rw [← hs1] at hc1
        exact of_decide_eq_true (clean_must hc1).2
      have hs1' : s1 = .rd inp p1 0 false := by rw [← hs1, decide_eq_true hi]; rfl
      clear hs1 hc1
      subst hs1'
      obtain ⟨p3, hq⟩ := clean_rd hcq (like_oneLine _ _ _)
      have hq' : (pEntry plus 0 (.rd inp p1 0 false, zeroE.at)).1 = .rd inp p3 0 false := hq
      obtain ⟨b1, b2, b3⟩ := (two_entry plus).back inp p1 zeroE.at p3 zeroE_ok q2 hq'
      obtain ⟨q, hqq⟩ : ∃ z, z = (oneLine plus (.rd inp p1 0 false) zeroE).1 := ⟨_, rfl⟩
      have hqok : q.ok := by rw [hqq]; exact oneLine_ok zeroE_ok
      have hty := (two_entry plus).ty (.rd inp p1 0 false, zeroE.at) zeroE_ok
      have hag : ∀ j ∈ List.range' 0 20, q.at j = (pEntry plus 0 (.rd inp p1 0 false, zeroE.at)).2 j := fun j hj => by
        rw [List.mem_range'_1] at hj
        rw [cells_entryOf hty j (by omega), hqq]; rfl
      rw [hq, ← hqq] at h5 ⊢
      obtain ⟨c1, c2, c3, c4, c5⟩ := ih (i + 1) (rs ++ [q]) inp p3 p2 (by simp [h1]) (by omega) (by omega) b2 h5
      obtain ⟨L, hL⟩ : ∃ z, z = (lines plus m (i + 1) (rs ++ [q]) (.rd inp p3 0 false)).1 := ⟨_, rfl⟩
      rw [← hL] at c3 c4 c5 ⊢
      obtain ⟨tl, htl⟩ := c3
      have hLi : L[i]? = some q := by rw [← htl, List.append_assoc, List.getElem?_append_right (by omega), h1]; simp
      have hlt : i < L.length := (List.getElem?_eq_some_iff.1 hLi).1
      refine ⟨by omega, c2, ⟨[q] ++ tl, by rw [← htl]; simp⟩, c4, fun out n hn => ?_⟩
      obtain ⟨n', rfl⟩ : ∃ n', n = n' + 1 := ⟨n - 1, by omega⟩
      have ht : (St.wr false out).truth (decide ((i : Int) < (L.length : Int))) = (true, .wr false (out ++ be 4 (boolNum true))) := by rw [decide_eq_true (by omega)]; rfl
      have hne : ¬ i = L.length := by omega
      have hw := b3 q.at (out ++ be 4 (boolNum true)) hqok hag
      have hone : oneLine plus (.wr false (out ++ be 4 (boolNum true))) q = (q, .wr false (out ++ be 4 (boolNum true) ++ (inp.drop p1).take (p3 - p1))) := by
        unfold oneLine
        simp only [hw, entry_at]
      rw [lines_go rfl ht rfl (if_neg hne) (if_neg hne) hLi, hone]
      have hsame : L.set i q = L := by
        refine List.ext_getElem? fun j => ?_
        by_cases hj : i = j
        · subst hj; rw [List.getElem?_set_self hlt, hLi]
        · rw [List.getElem?_set_ne hj]
      rw [hsame, c5 _ n' (by omega), q3]
      rw [List.append_assoc, List.append_assoc, take_two _ b1 c1, take_two _ q1 (Nat.le_trans b1 c1)]

theorem ext_lines (plus : Bool) : Ext (fun es : List EntryV => ∀ e ∈ es, e.ok) [] (fun es s => linesAll plus es s) where
  like := fun d s => (like_lines _ _ _ _ _).trans (like_must _ _)
  clean := fun d s h => (clean_must (clean_lines _ h)).1
  wr := fun d out out2 hd h => by
    have hc := clean_must (clean_lines (plus := plus) (d.length + 1026) (i := 0) (es := d) (s := (St.wr false out).must (decide ((d.length : Int) ≤ 1024))) (by
      show Clean (linesAll plus d (.wr false out)).2
      rw [h]; rfl))
    have hl : d.length ≤ 1024 := by have := of_decide_eq_true hc.2; omega
    have hs : (St.wr false out).must (decide ((d.length : Int) ≤ 1024)) = .wr false out := by rw [hc.2]; rfl
    have h' : (lines plus (d.length + 1026) 0 d (.wr false out)).2 = .wr false out2 := by rw [← hs]; exact h
    obtain ⟨u, q1, q2, q3⟩ := lines_wr plus (d.length + 1026) 0 d out out2 (Nat.zero_le _) hl hd (by omega) h'
    exact ⟨u, q1, q2, fun inp hp => q3 inp [] 1026 hp rfl (by omega)⟩
  back := fun inp pos p2 hle h => by
    have e : linesAll plus [] (.rd inp pos 0 false) = lines plus 1026 0 [] (.rd inp pos 0 false) := rfl
    rw [e] at h ⊢
    obtain ⟨q1, q2, _, q4, q5⟩ := lines_back plus 1026 0 [] inp pos p2 rfl (by decide) (by decide) hle h
    refine ⟨q1, q2, fun out => ?_⟩
    have hs : (St.wr false out).must (decide (((lines plus 1026 0 [] (.rd inp pos 0 false)).1.length : Int) ≤ 1024)) = .wr false out := by rw [decide_eq_true (by omega)]; rfl
    show (lines plus _ 0 _ ((St.wr false out).must _)).2 = _
    rw [hs]
    exact q5 out _ (by omega)

end Go.Proofs.Ytanknjpcgceccaa

/- Results of any procedure: what is written is read again, and the other way round. Plain, no program. (Printed by wip/tools/gen_two6.py.) -/
namespace Go.Proofs.Ytanknjpcgceccaa

/-- The layout, the slices whatever. -/
def resLay0 : List Ty := [.int] ++ (postLay ++ (postLay ++ (wccLay ++ (wccLay ++ (postLay ++ (postLay ++ [.bool, .str, .u32, .str, .u32, .bool, .any, .int, .u64, .u64, .any, .u64, .u64, .u64, .u64]))))))
theorem Typed.res0 {dv ev : Value} {A : Cells} (h : Typed (resLay dv ev) A) : Typed resLay0 A := by
  intro j t hj
  by_cases e : j = 79
  · subst e
    obtain rfl := Option.some.inj hj
    trivial
  · by_cases e2 : j = 83
    · subst e2
      obtain rfl := Option.some.inj hj
      trivial
    · have h3 : resLay0 = ((resLay dv ev).set 79 .any).set 83 .any := rfl
      rw [h3, List.getElem?_set_ne (by omega), List.getElem?_set_ne (by omega)] at hj
      exact h j t hj
theorem Typed.of_res0 {dv ev : Value} {A : Cells} (h : Typed resLay0 A) : Typed (resLay dv ev) (Go.Proofs.Ytanknjpcgceccaa.upd (Go.Proofs.Ytanknjpcgceccaa.upd A 79 dv) 83 ev) := by
  intro j t hj
  by_cases e2 : j = 83
  · subst e2
    rw [upd_at]
    obtain rfl := Option.some.inj hj
    rfl
  · rw [upd_ne _ _ e2]
    by_cases e : j = 79
    · subst e
      rw [upd_at]
      obtain rfl := Option.some.inj hj
      rfl
    · rw [upd_ne _ _ e]
      have h3 : resLay dv ev = (resLay0.set 79 (.is dv)).set 83 (.is ev) := rfl
      rw [h3, List.getElem?_set_ne (by omega), List.getElem?_set_ne (by omega)] at hj
      exact h j t hj
theorem sub0_obj : ∀ j t, postLay[j]? = some t → resLay0[1 + j]? = some t := fun _ _ h => lay_at [.int] h
theorem sub0_dir : ∀ j t, postLay[j]? = some t → resLay0[16 + j]? = some t := fun _ _ h => lay_at ([.int] ++ postLay) h
theorem sub0_before : ∀ j t, wccLay[j]? = some t → resLay0[31 + j]? = some t := fun _ _ h => lay_at ([.int] ++ (postLay ++ postLay)) h
theorem sub0_toBefore : ∀ j t, wccLay[j]? = some t → resLay0[37 + j]? = some t := fun _ _ h => lay_at ([.int] ++ (postLay ++ (postLay ++ wccLay))) h
theorem sub0_after : ∀ j t, postLay[j]? = some t → resLay0[43 + j]? = some t := fun _ _ h => lay_at ([.int] ++ (postLay ++ (postLay ++ (wccLay ++ wccLay)))) h
theorem sub0_toAfter : ∀ j t, postLay[j]? = some t → resLay0[58 + j]? = some t := fun _ _ h => lay_at ([.int] ++ (postLay ++ (postLay ++ (wccLay ++ (wccLay ++ postLay))))) h

theorem pStat_eq (x : X) : pStat x = pMust (knownB (iv ((pNumber 0 4294967295 0 x).2 0))) (pNumber 0 4294967295 0 x) := by
  obtain ⟨s, A⟩ := x
  cases s with
  | rd i p e b =>
    show ((((St.rd i p e b).number 0 4294967295 (iv (A 0))).2.must (knownB ((St.rd i p e b).number 0 4294967295 (iv (A 0))).1)), upd A 0 (.int .i64 ((St.rd i p e b).number 0 4294967295 (iv (A 0))).1)) = _
    unfold pMust pNumber
    simp only [upd_at, iv]
  | wr b out =>
    show (((((St.wr b out).must (knownB (iv (A 0)))).number 0 4294967295 (iv (A 0))).2.must (knownB (((St.wr b out).must (knownB (iv (A 0)))).number 0 4294967295 (iv (A 0))).1)), upd A 0 (.int .i64 (((St.wr b out).must (knownB (iv (A 0)))).number 0 4294967295 (iv (A 0))).1)) = _
    unfold pMust pNumber
    simp only [upd_at, iv, St.must, St.number, St.num]
    cases b <;> cases knownB (match A 0 with | some (.int _ v) => v | _ => 0) <;> simp
theorem two_stat : Two resLay0 [0] [0] pStat := by
  have h := two_must (fun v => knownB (iv v)) (two_number (lay := resLay0) (o := 0) (lo := 0) (hi := 4294967295) (by decide) (by decide) rfl) (o := 0) (by simp)
  have e : (fun x => pMust (knownB (iv ((pNumber 0 4294967295 0 x).2 0))) (pNumber 0 4294967295 0 x)) = pStat := by funext x; exact (pStat_eq x).symm
  rw [e] at h
  exact h
theorem two_found : Two resLay0 [] [74, 73] pFound :=
  (two_comp (two_text (lay := resLay0) (o := 74) (most := 64) (by decide) (by decide) rfl) (two_put (o := 73) (v := .bool true) fun A hA => hA.upd' (o := 73) rfl ⟨_, rfl⟩) (by decide)).weak (by simp) (by simp)
/-- GETATTR's file is always there. -/
def has1 (x : X) : X := ((if x.1.isWr then x.1.must (bv (x.2 1)) else x.1), upd x.2 1 (.bool true))
theorem two_has1 : Two resLay0 [1] [1] has1 where
  sub := fun _ h => h
  like := fun x => by
    unfold has1; simp only; split
    · exact like_must _ _
    · exact Like.refl _
  clean := fun x h => by
    unfold has1 at h; simp only at h; split at h
    · exact (clean_must h).1
    · exact h
  fr := fun x j hj => upd_ne _ _ (not_one hj)
  ty := fun x hx => hx.upd' (o := 1) rfl ⟨_, rfl⟩
  wr := fun A out out2 hA h => by
    have h2 : (St.wr false out).must (bv (A 1)) = .wr false out2 := h
    have h3 : St.wr (false || !bv (A 1)) out = .wr false out2 := h2
    simp only [St.wr.injEq] at h3
    refine ⟨[], by rw [← h3.2, List.append_nil], rfl, fun inp Z hZ hp => ⟨by simp [has1, St.isWr], fun j hj => ?_⟩⟩
    simp only [List.mem_singleton] at hj
    subst hj
    show upd Z 1 _ 1 = upd A 1 _ 1
    rw [upd_at, upd_at]
  back := fun inp pos A p2 hA hle h => by
    have h2 : St.rd inp pos 0 false = .rd inp p2 0 false := h
    simp only [St.rd.injEq, true_and, and_true] at h2
    subst h2
    refine ⟨Nat.le_refl _, hle, fun B out hB hT => ?_⟩
    have hbo : B 1 = some (.bool true) := by
      rw [hT 1 (by simp)]
      show upd A 1 (.bool true) 1 = _
      exact upd_at _ _ _
    show ((St.wr false out).must (bv (B 1)), upd B 1 (.bool true)) = _
    rw [upd_self hbo, hbo]
    simp [St.must, bv]

theorem good1_eq (x : X) : pGood 1 x = pAttr 2 (has1 x) := by
  unfold pGood has1
  simp only
  cases x.1.isWr <;> rfl

/-- What the front of a procedure's results looks at. -/
def TF : Nat → List Nat
  | 2 | 7 | 12 | 13 | 21 => List.range' 31 6 ++ List.range' 43 15
  | 3 => [74, 73] ++ List.range' 1 15 ++ List.range' 16 15
  | 4 | 5 | 6 | 16 | 17 | 18 | 19 | 20 => List.range' 1 15
  | 8 | 9 | 10 | 11 => [73, 74] ++ List.range' 1 15 ++ (List.range' 31 6 ++ List.range' 43 15)
  | 14 => List.range' 31 6 ++ List.range' 43 15 ++ (List.range' 37 6 ++ List.range' 58 15)
  | 15 => List.range' 1 15 ++ (List.range' 31 6 ++ List.range' 43 15)
  | _ => []
theorem tells_cases {k : Nat} (hk : tells k) : k = 1 ∨ k = 2 ∨ k = 3 ∨ k = 4 ∨ k = 5 ∨ k = 6 ∨ k = 7 ∨ k = 8 ∨ k = 9 ∨ k = 10 ∨ k = 11 ∨ k = 12 ∨ k = 13 ∨ k = 14 ∨ k = 15 ∨ k = 16 ∨ k = 17 ∨ k = 18 ∨ k = 19 ∨ k = 20 ∨ k = 21 ∨ k = 101 := by unfold tells at hk; omega
theorem two_front (k : Nat) (hk : tells k) (ok : Bool) : Two resLay0 [] (TF k) (pFront k ok) := by
  have wcc := two_wcc (lay := resLay0) (o := 31) (p := 43) sub0_before sub0_after (by decide)
  have obj := two_post (lay := resLay0) (o := 1) sub0_obj
  have dir := two_post (lay := resLay0) (o := 16) sub0_dir
  have wcc2 := two_wcc (lay := resLay0) (o := 37) (p := 58) sub0_toBefore sub0_toAfter (by decide)
  have hd := two_handle (lay := resLay0) (a := 73) (b := 74) (by decide) rfl rfl
  rcases tells_cases hk with rfl | rfl | rfl | rfl | rfl | rfl | rfl | rfl | rfl | rfl | rfl | rfl | rfl | rfl | rfl | rfl | rfl | rfl | rfl | rfl | rfl | rfl
  · exact two_id
  · exact wcc
  · cases ok
    · exact dir.weak (by simp) (by decide)
    · exact (two_comp (two_comp two_found obj (by decide)) dir (by decide)).weak (by simp) (by decide)
  · exact obj
  · exact obj
  · exact obj
  · exact wcc
  · cases ok
    · exact wcc.weak (by simp) (by decide)
    · exact (two_comp (two_comp hd obj (by decide)) wcc (by decide)).weak (by simp) (by decide)
  · cases ok
    · exact wcc.weak (by simp) (by decide)
    · exact (two_comp (two_comp hd obj (by decide)) wcc (by decide)).weak (by simp) (by decide)
  · cases ok
    · exact wcc.weak (by simp) (by decide)
    · exact (two_comp (two_comp hd obj (by decide)) wcc (by decide)).weak (by simp) (by decide)
  · cases ok
    · exact wcc.weak (by simp) (by decide)
    · exact (two_comp (two_comp hd obj (by decide)) wcc (by decide)).weak (by simp) (by decide)
  · exact wcc
  · exact wcc
  · exact (two_comp wcc wcc2 (by decide)).weak (by simp) (by decide)
  · exact (two_comp obj wcc (by decide)).weak (by simp) (by decide)
  · exact obj
  · exact obj
  · exact obj
  · exact obj
  · exact obj
  · exact wcc
  · exact two_id
theorem two_rFront (k : Nat) (hk : tells k) : Two resLay0 [0] (0 :: TF k) (rFront k) := by
  have d : ∀ j ∈ [0], j ∉ TF k := by rcases tells_cases hk with rfl | rfl | rfl | rfl | rfl | rfl | rfl | rfl | rfl | rfl | rfl | rfl | rfl | rfl | rfl | rfl | rfl | rfl | rfl | rfl | rfl | rfl <;> decide
  have h := two_choice (fun v => iv v == 0) two_stat (o := 0) (by simp) (two_front k hk true) (two_front k hk false) d d
  have e : (fun x => if (iv ((pStat x).2 0) == 0) = true then pFront k true (pStat x) else pFront k false (pStat x)) = rFront k := by
    funext x
    unfold rFront
    cases iv ((pStat x).2 0) == 0 <;> rfl
  rw [e] at h
  exact h.weak (fun _ h => h) (by
    intro j hj
    rw [List.mem_append, List.mem_append] at hj
    rcases hj with hj | hj | hj
    · simp at hj; simp [hj]
    · exact List.mem_cons_of_mem _ hj
    · exact List.mem_cons_of_mem _ hj)

/-! ### A procedure, both ways -/
structure RTwo (k : Nat) : Prop where
  like : ∀ x ds es, Like (rAllE k x ds es).1.1 x.1
  ty : ∀ x ds es, Typed resLay0 x.2 → Typed resLay0 (rAllE k x ds es).1.2
  wr : ∀ A ds es p, Typed resLay0 A → (∀ e ∈ es, EntryV.ok e) → (rAllE k (.wr false [], A) ds es).1.1 = .wr false p → p.length % 4 = 0 ∧ ∀ Z, Typed resLay0 Z → (rAllE k (.rd p 0 0 false, Z) [] []).1.1 = .rd p p.length 0 false
  back : ∀ A b, Typed resLay0 A → (rAllE k (.rd b 0 0 false, A) [] []).1.1 = .rd b b.length 0 false → ∀ B, Typed resLay0 B → (∀ j, j < 88 → j ≠ 79 → j ≠ 83 → B j = (rAllE k (.rd b 0 0 false, A) [] []).1.2 j) →
    (rAllE k (.wr false [], B) (rAllE k (.rd b 0 0 false, A) [] []).2.1 (rAllE k (.rd b 0 0 false, A) [] []).2.2).1.1 = .wr false b
theorem tells_two {k : Nat} (hk : tells k) {G P : X → X} {M : List UInt8 × List EntryV → St → (List UInt8 × List EntryV) × St} {Sg Tg Sp Tp : List Nat}
    (he : ∀ x ds es, gAllE k x ds es = (P ((M (ds, es) (G x).1).2, (G x).2), (M (ds, es) (G x).1).1.1, (M (ds, es) (G x).1).1.2))
    (hg : Two resLay0 Sg Tg G) (hp : Two resLay0 Sp Tp P) (hM : Ext (fun d : List UInt8 × List EntryV => ∀ e ∈ d.2, EntryV.ok e) ([], []) M) (x1 : ∀ j ∈ 0 :: TF k, j ∉ Tg) (x2 : ∀ j ∈ 0 :: TF k, j ∉ Tp) (x3 : ∀ j ∈ Tg, j ∉ Tp)
    (n1 : ∀ j ∈ 0 :: TF k, j < 88 ∧ j ≠ 79 ∧ j ≠ 83) (n2 : ∀ j ∈ Tg, j < 88 ∧ j ≠ 79 ∧ j ≠ 83) (n3 : ∀ j ∈ Tp, j < 88 ∧ j ≠ 79 ∧ j ≠ 83) : RTwo k := by
  have hr : ∀ x ds es, rAllE k x ds es = ((whole (rFront k) G P M 0 (fun v => iv v == 0) x (ds, es)).1, (whole (rFront k) G P M 0 (fun v => iv v == 0) x (ds, es)).2.1, (whole (rFront k) G P M 0 (fun v => iv v == 0) x (ds, es)).2.2) := by
    intro x ds es
    unfold rAllE
    rw [if_neg (by unfold tells at hk; omega)]
    unfold rTellsE whole
    split
    · rw [he]
    · rfl
  have hf := two_rFront k hk
  refine ⟨fun x ds es => by rw [hr]; exact whole_like hf hg hp hM x _, fun x ds es hx => by rw [hr]; exact whole_ty hf hg hp x _ hx, fun A ds es p hA hes hw => ?_, fun A b hA hrd B hB hT => ?_⟩
  · rw [hr] at hw
    obtain ⟨q1, q2⟩ := whole_wr hf (by simp) hg hp hM A (ds, es) p hA hes hw
    exact ⟨q1, fun Z hZ => by rw [hr]; exact q2 Z hZ⟩
  · rw [hr] at hrd hT ⊢
    rw [hr]
    refine whole_back hf (by simp) hg hp hM x1 x2 x3 A b hA hrd B hB fun j hj => ?_
    have hn : j < 88 ∧ j ≠ 79 ∧ j ≠ 83 := by
      rcases hj with hj | hj | hj
      · exact n1 j hj
      · exact n2 j hj
      · exact n3 j hj
    exact hT j hn.1 hn.2.1 hn.2.2
theorem ext_nothing : Ext (fun d : List UInt8 × List EntryV => ∀ e ∈ d.2, EntryV.ok e) ([], []) (fun d s => (d, s)) := ext_none _ _
theorem Ext.fst {D E : Type} {ok : D → Prop} {ok2 : E → Prop} {d0 : D} {e0 : E} {M : D → St → D × St} (h : Ext ok d0 M) (hok : ∀ d, ok d) : Ext (fun d : D × E => ok2 d.2) (d0, e0) (fun d s => (((M d.1 s).1, d.2), (M d.1 s).2)) :=
  ⟨fun d s => h.like d.1 s, fun d s hc => h.clean d.1 s hc, fun d out out2 _ hw => h.wr d.1 out out2 (hok _) hw, fun inp pos p2 hle hr => h.back inp pos p2 hle hr⟩
theorem Ext.snd {D E : Type} {ok : D → Prop} {d0 : D} {e0 : E} {M : D → St → D × St} (h : Ext ok d0 M) : Ext (fun d : E × D => ok d.2) (e0, d0) (fun d s => ((d.1, (M d.2 s).1), (M d.2 s).2)) :=
  ⟨fun d s => h.like d.2 s, fun d s hc => h.clean d.2 s hc, fun d out out2 hd hw => h.wr d.2 out out2 hd hw, fun inp pos p2 hle hr => h.back inp pos p2 hle hr⟩
theorem ext_data : Ext (fun d : List UInt8 × List EntryV => ∀ e ∈ d.2, EntryV.ok e) ([], []) (fun d s => (((s.row 8192 d.1).1, d.2), (s.row 8192 d.1).2)) :=
  Ext.fst (M := fun (d : List UInt8) s => s.row 8192 d) (ok2 := fun es => ∀ e ∈ es, EntryV.ok e) (ext_row (most := 8192) (by decide)) fun _ => trivial
theorem ext_dir (plus : Bool) : Ext (fun d : List UInt8 × List EntryV => ∀ e ∈ d.2, EntryV.ok e) ([], []) (fun d s => ((d.1, (linesAll plus d.2 s).1), (linesAll plus d.2 s).2)) :=
  Ext.snd (M := fun es s => linesAll plus es s) (ext_lines plus)
/-- Where no Status is told. -/
theorem other_two {k : Nat} (h0 : k = 0 ∨ k = 100 ∨ k = 102 ∨ k = 103 ∨ k = 104 ∨ k = 105) (hf : Two resLay0 [] [] (rOther k)) : RTwo k := by
  have hr : ∀ x ds es, rAllE k x ds es = (rOther k x, ds, es) := fun x ds es => if_pos h0
  refine ⟨fun x ds es => by rw [hr]; exact hf.like x, fun x ds es hx => by rw [hr]; exact hf.ty x hx, fun A ds es p hA hes hw => ?_, fun A b hA hrd B hB hT => ?_⟩
  · rw [hr] at hw
    obtain ⟨d, q1, q2, q3⟩ := hf.wr A [] p hA hw
    rw [List.nil_append] at q1
    subst q1
    exact ⟨q2, fun Z hZ => by rw [hr]; have := (q3 p Z hZ (by rw [List.nil_append]; exact List.prefix_refl _)).1; rwa [List.nil_append] at this⟩
  · rw [hr] at hrd
    rw [hr]
    obtain ⟨q1, q2, q3⟩ := hf.back b 0 A b.length hA (Nat.zero_le _) hrd
    have := q3 B [] hB (fun j hj => by simp at hj)
    rw [this]
    simp

theorem res_rtwo (k : Nat) (hk : thereN k) : RTwo k := by
  have hc : k = 0 ∨ k = 100 ∨ k = 102 ∨ k = 103 ∨ k = 104 ∨ k = 105 ∨ tells k := by unfold thereN at hk; unfold tells; omega
  rcases hc with rfl | rfl | rfl | rfl | rfl | rfl | hk
  · exact other_two (by simp) two_id
  · exact other_two (by simp) two_id
  · exact other_two (by simp) (two_fixed [0] (by simp))
  · exact other_two (by simp) two_id
  · exact other_two (by simp) two_id
  · exact other_two (by simp) (two_comp (two_comp (two_fixed [1] (by simp)) (two_row (most := 1024) (c := [47]) (by decide)) (by simp)) (two_fixed [0, 0] (by simp)) (by simp))
  · have HK := hk
    rcases tells_cases hk with rfl | rfl | rfl | rfl | rfl | rfl | rfl | rfl | rfl | rfl | rfl | rfl | rfl | rfl | rfl | rfl | rfl | rfl | rfl | rfl | rfl | rfl
    · exact tells_two (M := (fun d s => (d, s))) HK (fun x ds es => by show (pGood 1 x, ds, es) = _; rw [good1_eq]) (two_comp two_has1 (two_attr (lay := resLay0) (o := 2) (post_attr sub0_obj)) (by decide)) (two_id) ext_nothing (by decide) (by decide) (by decide) (by decide) (by decide) (by decide)
    · exact tells_two (M := (fun d s => (d, s))) HK (fun x ds es => rfl) (two_id) (two_id) ext_nothing (by decide) (by decide) (by decide) (by decide) (by decide) (by decide)
    · exact tells_two (M := (fun d s => (d, s))) HK (fun x ds es => rfl) (two_id) (two_id) ext_nothing (by decide) (by decide) (by decide) (by decide) (by decide) (by decide)
    · exact tells_two (M := (fun d s => (d, s))) HK (fun x ds es => rfl) (two_u32 (o := 75) rfl) (two_id) ext_nothing (by decide) (by decide) (by decide) (by decide) (by decide) (by decide)
    · exact tells_two (M := (fun d s => (d, s))) HK (fun x ds es => rfl) (two_text (o := 76) (most := 1024) (by decide) (by decide) rfl) (two_id) ext_nothing (by decide) (by decide) (by decide) (by decide) (by decide) (by decide)
    · exact tells_two (M := (fun d s => (((s.row 8192 d.1).1, d.2), (s.row 8192 d.1).2))) HK (fun x ds es => rfl) (two_comp (two_u32 (lay := resLay0) (o := 77) rfl) (two_truth (o := 78) rfl) (by decide)) (two_id) ext_data (by decide) (by decide) (by decide) (by decide) (by decide) (by decide)
    · exact tells_two (M := (fun d s => (d, s))) HK (fun x ds es => rfl) (two_comp (two_comp (two_u32 (lay := resLay0) (o := 77) rfl) (two_number (o := 80) (lo := 0) (hi := 2) (by decide) (by decide) rfl) (by decide)) (two_u64 (o := 81) rfl) (by decide)) (two_id) ext_nothing (by decide) (by decide) (by decide) (by decide) (by decide) (by decide)
    · exact tells_two (M := (fun d s => (d, s))) HK (fun x ds es => rfl) (two_id) (two_id) ext_nothing (by decide) (by decide) (by decide) (by decide) (by decide) (by decide)
    · exact tells_two (M := (fun d s => (d, s))) HK (fun x ds es => rfl) (two_id) (two_id) ext_nothing (by decide) (by decide) (by decide) (by decide) (by decide) (by decide)
    · exact tells_two (M := (fun d s => (d, s))) HK (fun x ds es => rfl) (two_id) (two_id) ext_nothing (by decide) (by decide) (by decide) (by decide) (by decide) (by decide)
    · exact tells_two (M := (fun d s => (d, s))) HK (fun x ds es => rfl) (two_id) (two_id) ext_nothing (by decide) (by decide) (by decide) (by decide) (by decide) (by decide)
    · exact tells_two (M := (fun d s => (d, s))) HK (fun x ds es => rfl) (two_id) (two_id) ext_nothing (by decide) (by decide) (by decide) (by decide) (by decide) (by decide)
    · exact tells_two (M := (fun d s => (d, s))) HK (fun x ds es => rfl) (two_id) (two_id) ext_nothing (by decide) (by decide) (by decide) (by decide) (by decide) (by decide)
    · exact tells_two (M := (fun d s => (d, s))) HK (fun x ds es => rfl) (two_id) (two_id) ext_nothing (by decide) (by decide) (by decide) (by decide) (by decide) (by decide)
    · exact tells_two (M := (fun d s => (d, s))) HK (fun x ds es => rfl) (two_id) (two_id) ext_nothing (by decide) (by decide) (by decide) (by decide) (by decide) (by decide)
    · exact tells_two (M := (fun d s => ((d.1, (linesAll false d.2 s).1), (linesAll false d.2 s).2))) HK (fun x ds es => rfl) (two_u64 (o := 82) rfl) (two_truth (o := 78) rfl) (ext_dir false) (by decide) (by decide) (by decide) (by decide) (by decide) (by decide)
    · exact tells_two (M := (fun d s => ((d.1, (linesAll true d.2 s).1), (linesAll true d.2 s).2))) HK (fun x ds es => rfl) (two_u64 (o := 82) rfl) (two_truth (o := 78) rfl) (ext_dir true) (by decide) (by decide) (by decide) (by decide) (by decide) (by decide)
    · exact tells_two (M := (fun d s => (d, s))) HK (fun x ds es => rfl) ((by
      have h := two_comp (two_dup (two_comp (two_dup (two_u64s (lay := resLay0) (o := 84) (p := 85) (by decide) rfl rfl) (o := 85) (by simp) rfl) (two_u64s (o := 86) (p := 87) (by decide) rfl rfl) (by decide)) (o := 87) (by simp) rfl) (two_fixed [0] (by simp)) (by simp)
      have e : (fun x => pFixed [0] (dup 87 (nums 8 .u64 [86, 87] (dup 85 (nums 8 .u64 [84, 85] x))))) = pSpace := by funext x; exact (pSpace_eq x).symm
      rw [e] at h
      exact h)) (two_id) ext_nothing (by decide) (by decide) (by decide) (by decide) (by decide) (by decide)
    · exact tells_two (M := (fun d s => (d, s))) HK (fun x ds es => rfl) (two_comp (two_comp (two_fixed (lay := resLay0) [8192, 8192, 512, 8192, 8192, 512, 8192] (by decide)) (two_fixed64 (v := 1082199040) (by decide)) (by simp)) (two_fixed [0, 1000000, 27] (by decide)) (by simp)) (two_id) ext_nothing (by decide) (by decide) (by decide) (by decide) (by decide) (by decide)
    · exact tells_two (M := (fun d s => (d, s))) HK (fun x ds es => rfl) (two_fixed [32, 27, 1, 1, 0, 1] (by decide)) (two_id) ext_nothing (by decide) (by decide) (by decide) (by decide) (by decide) (by decide)
    · exact tells_two (M := (fun d s => (d, s))) HK (fun x ds es => rfl) (two_u64 (o := 81) rfl) (two_id) ext_nothing (by decide) (by decide) (by decide) (by decide) (by decide) (by decide)
    · exact tells_two (M := (fun d s => (d, s))) HK (fun x ds es => rfl) (two_comp two_found (two_fixed [1, 1] (by decide)) (by simp)) (two_id) ext_nothing (by decide) (by decide) (by decide) (by decide) (by decide) (by decide)

/-! ### Written, read -/
theorem wresE_ok {k : Nat} {a : ResV} {dv ev : Value} {p : List UInt8} (ht : there (k : Int) = true) (h : wresE (k : Int) a dv ev = (p, 0)) : (rAllE k (.wr false [], resCells a dv ev) a.data a.entries).1.1 = .wr false p := by
  simp only [wresE, ht, if_true, Int.toNat_natCast] at h
  generalize (rAllE k (.wr false [], resCells a dv ev) a.data a.entries).1.1 = s at h
  cases s with
  | rd i q e b => simp at h
  | wr b out =>
    cases b
    · simp only [Prod.mk.injEq, and_true] at h; rw [h]
    · simp at h
theorem wresE_of {k : Nat} {a : ResV} {dv ev : Value} {p : List UInt8} (ht : there (k : Int) = true) (h : (rAllE k (.wr false [], resCells a dv ev) a.data a.entries).1.1 = .wr false p) : wresE (k : Int) a dv ev = (p, 0) := by
  simp only [wresE, ht, if_true, Int.toNat_natCast, h]
theorem ended_iff {inp : List UInt8} {pos : Nat} {err : Int} {bad : Bool} (h : endedB inp pos err bad = true) : pos = inp.length ∧ err = 0 ∧ bad = false := by
  unfold endedB at h
  simp only [Bool.and_eq_true, Bool.not_eq_true', beq_iff_eq] at h
  obtain ⟨h1, h2, h3⟩ := h
  exact ⟨by omega, h2, h1⟩
/-- What WriteRes wrote ReadRes reads; it is a multiple of four bytes. -/
theorem res_wr (k : Nat) (hk : thereN k) (ht : there (k : Int) = true) (a : ResV) (dv ev : Value) (p : List UInt8) (ha : a.ok) (hes : ∀ e ∈ a.entries, e.ok) (h : wresE (k : Int) a dv ev = (p, 0)) : p.length % 4 = 0 ∧ (rresE (k : Int) p).2 = 0 := by
  obtain ⟨q1, q2⟩ := (res_rtwo k hk).wr _ _ _ p (ha dv ev).res0 hes (wresE_ok ht h)
  refine ⟨q1, ?_⟩
  have := q2 _ (zr_typed (.slice none 0 0) (.slice none 0 0)).res0
  simp only [rresE, ht, if_true, Int.toNat_natCast, this]
  rw [if_pos (by simp [endedB])]
/-- What ReadRes read WriteRes writes again. -/
theorem res_back (k : Nat) (hk : thereN k) (ht : there (k : Int) = true) (b : List UInt8) (h : (rresE (k : Int) b).2 = 0) (dv ev : Value) : wresE (k : Int) (rresE (k : Int) b).1 dv ev = (b, 0) := by
  have R := res_rtwo k hk
  have hl := R.like (.rd b 0 0 false, resCells zeroRes (.slice none 0 0) (.slice none 0 0)) [] []
  obtain ⟨y, hy⟩ : ∃ z, z = rAllE k (.rd b 0 0 false, resCells zeroRes (.slice none 0 0) (.slice none 0 0)) [] [] := ⟨_, rfl⟩
  have hb := R.back (resCells zeroRes (.slice none 0 0) (.slice none 0 0)) b (zr_typed _ _).res0
  have hty := R.ty (.rd b 0 0 false, resCells zeroRes (.slice none 0 0) (.slice none 0 0)) [] [] (zr_typed _ _).res0
  rw [← hy] at hl hb hty
  have e : rresE (k : Int) b = (match y.1.1 with | .rd _ pos err bad => if endedB b pos err bad then ({ resOf y.1.2 y.2.1 with entries := y.2.2 }, 0) else (zeroRes, 15) | .wr .. => (zeroRes, 15)) := by
    simp only [rresE, ht, if_true, Int.toNat_natCast, ← hy]
    rfl
  obtain ⟨⟨s, A'⟩, ds, es⟩ := y
  cases s with
  | wr q o => have := hl.1; cases this
  | rd inp pos err bad =>
    have hi : inp = b := hl.2
    subst hi
    rw [e] at h ⊢
    simp only at h ⊢
    split at h
    · rename_i hen
      rw [if_pos hen]
      obtain ⟨rfl, rfl, rfl⟩ := ended_iff hen
      have hok := ok_resOf (hty.of_res0 (dv := .slice none 0 0) (ev := .slice none 0 0)) ds es
      rw [resOf_upd] at hok
      refine wresE_of ht (hb rfl _ (hok dv ev).res0 fun j hj h79 h83 => ?_)
      have h1 := cells_resOf (hty.of_res0 (dv := dv) (ev := ev)) ds j hj
      rw [resOf_upd, upd_ne _ _ h83, upd_ne _ _ h79] at h1
      exact h1.symm
    · simp at h

end Go.Proofs.Ytanknjpcgceccaa

/- Arguments of any procedure: what is written is read again, and the other way round; how much a reading gives. Plain, no program. (Printed by wip/tools/gen_two7.py.) -/
namespace Go.Proofs.Ytanknjpcgceccaa

section
variable {lay : List Ty}
/-- A choice by what was read, any. -/
theorem two_pick {S T T' : List Nat} {h : X → X} {o : Nat} (ch : Option Value → X → X) (hh : Two lay S T h) (ho : o ∈ S) (hc : ∀ v, ∃ S', Two lay S' T' (ch v)) (d : ∀ j ∈ T, j ∉ T') : Two lay S (T ++ T') (fun x => ch ((h x).2 o) (h x)) := by
  have hT := hh.sub o ho
  refine ⟨fun j hj => List.mem_append_left _ (hh.sub j hj), fun x => ?_, fun x hx => ?_, fun x j hj => ?_, fun x hx => ?_, fun A out out2 hA hw => ?_, fun inp pos A p2 hA hle hr => ?_⟩
  · obtain ⟨S', hk⟩ := hc ((h x).2 o)
    exact (two_comp hh hk d).like x
  · obtain ⟨S', hk⟩ := hc ((h x).2 o)
    exact (two_comp hh hk d).clean x hx
  · obtain ⟨S', hk⟩ := hc ((h x).2 o)
    exact (two_comp hh hk d).fr x j hj
  · obtain ⟨S', hk⟩ := hc ((h x).2 o)
    exact (two_comp hh hk d).ty x hx
  · obtain ⟨v, hv⟩ : ∃ z, z = (h (.wr false out, A)).2 o := ⟨_, rfl⟩
    rw [← hv] at hw
    obtain ⟨S', hk⟩ := hc v
    have hcl : Clean (h (.wr false out, A)).1 := hk.clean _ (by rw [hw]; exact rfl)
    obtain ⟨o1, h1⟩ := clean_wr (out := []) hcl (hh.like _) rfl
    obtain ⟨dd, rfl, _, r1⟩ := hh.wr A out o1 hA h1
    obtain ⟨u, q1, q2, q3⟩ := (two_comp hh hk d).wr A out out2 hA hw
    refine ⟨u, q1, q2, fun inp Z hZ hp => ?_⟩
    obtain ⟨z1, z2⟩ := q3 inp Z hZ hp
    have e1 : h (.wr false out, A) = (.wr false (out ++ dd), (h (.wr false out, A)).2) := Prod.ext h1 rfl
    have hw2 := hw
    rw [e1] at hw2
    obtain ⟨d', q1', _, _⟩ := hk.wr _ _ _ (hh.ty (.wr false out, A) hA) hw2
    have hpre : (out ++ dd) <+: inp := by
      have : out ++ u = out ++ dd ++ d' := by rw [← q1, q1']
      rw [this] at hp
      exact (List.prefix_append _ _).trans hp
    have hz := (r1 inp Z hZ hpre).2 o ho
    rw [hz, ← hv]
    exact ⟨z1, fun j hj => z2 j (List.mem_append_left _ hj)⟩
  · obtain ⟨v, hv⟩ : ∃ z, z = (h (.rd inp pos 0 false, A)).2 o := ⟨_, rfl⟩
    rw [← hv] at hr
    obtain ⟨S', hk⟩ := hc v
    obtain ⟨a1, a2, a3⟩ := (two_comp hh hk d).back inp pos A p2 hA hle hr
    refine ⟨a1, a2, fun B out hB hTB => ?_⟩
    rw [← hv] at hTB
    have hcl : Clean (h (.rd inp pos 0 false, A)).1 := hk.clean _ (by rw [hr]; exact ⟨rfl, rfl⟩)
    obtain ⟨p1, h1⟩ := clean_rd hcl (hh.like _)
    obtain ⟨_, _, b3⟩ := hh.back inp pos A p1 hA hle h1
    have hag : ∀ j ∈ T, B j = (h (.rd inp pos 0 false, A)).2 j := fun j hj => by rw [hTB j (List.mem_append_left _ hj)]; exact hk.fr _ j (d j hj)
    have hb : (h (.wr false out, B)).2 o = v := by rw [b3 B out hB hag, hv]; exact hag o hT
    rw [hb]
    exact a3 B out hB hTB
end

/-- The layout of arguments, the data whatever. -/
def aLay : List Ty := (argLay (.bool false)).set 28 .any
theorem Typed.alay {dv : Value} {A : Cells} (h : Typed (argLay dv) A) : Typed aLay A := by
  intro j t hj
  by_cases e : j = 28
  · subst e
    obtain rfl := Option.some.inj hj
    trivial
  · have h2 : aLay[j]? = (argLay dv)[j]? := by
      have h3 : argLay dv = (argLay (.bool false)).set 28 (.is dv) := rfl
      rw [h3, aLay, List.getElem?_set_ne (by omega), List.getElem?_set_ne (by omega)]
    exact h j t (h2 ▸ hj)
theorem Typed.of_alay {dv : Value} {A : Cells} (h : Typed aLay A) : Typed (argLay dv) (Go.Proofs.Ytanknjpcgceccaa.upd A 28 dv) := by
  intro j t hj
  by_cases e : j = 28
  · subst e
    rw [upd_at]
    obtain rfl := Option.some.inj hj
    rfl
  · rw [upd_ne _ _ e]
    have h3 : argLay dv = aLay.set 28 (.is dv) := rfl
    rw [h3, List.getElem?_set_ne (by omega)] at hj
    exact h j t hj
theorem two_set : Two aLay [] (List.range' 5 14) (pSet 5) := by
  have a1 := two_if (two_truth (lay := aLay) (o := 5) rfl) (o := 5) (by simp) (two_number (o := 9) (lo := 0) (hi := 4294967295) (by decide) (by decide) rfl) (by decide)
  have a2 := two_if (two_truth (lay := aLay) (o := 6) rfl) (o := 6) (by simp) (two_u32 (o := 10) rfl) (by decide)
  have a3 := two_if (two_truth (lay := aLay) (o := 7) rfl) (o := 7) (by simp) (two_u32 (o := 11) rfl) (by decide)
  have a4 := two_if (two_truth (lay := aLay) (o := 8) rfl) (o := 8) (by simp) (two_u64 (o := 12) rfl) (by decide)
  have a5 := two_how (lay := aLay) (v := 13) (t := 15) rfl rfl rfl (by decide)
  have a6 := two_how (lay := aLay) (v := 14) (t := 17) rfl rfl rfl (by decide)
  exact (two_comp (two_comp (two_comp (two_comp (two_comp a1 a2 (by decide)) a3 (by decide)) a4 (by decide)) a5 (by decide)) a6 (by decide)).weak (by simp) (by decide)
theorem two_n8 : Two aLay [26] ([26] ++ (29 :: List.range' 5 14)) (pNamed 8) := by
  have h := two_pick (fun v y => if iv v = 2 then num1 8 .u64 29 y else pSet 5 y) (two_number (lay := aLay) (o := 26) (lo := 0) (hi := 2) (by decide) (by decide) rfl) (o := 26) (T' := 29 :: List.range' 5 14) (by simp) (fun v => by
    by_cases h2 : iv v = 2
    · exact ⟨[], by simp only [h2, if_true]; exact (two_u64 (o := 29) rfl).weak (by simp) (by decide)⟩
    · exact ⟨[], by simp only [h2, if_false]; exact two_set.weak (by simp) (by decide)⟩) (by decide)
  exact h
theorem two_n11 : Two aLay [27] ([27] ++ ([34, 35] ++ List.range' 5 14)) (pNamed 11) := by
  have s35 : Two aLay [] ([34, 35] ++ List.range' 5 14) (fun y => nums 4 .u32 [34, 35] (pSet 5 y)) := (two_comp two_set (two_u32s (o := 34) (p := 35) (by decide) rfl rfl) (by decide)).weak (by simp) (by decide)
  have s0 : Two aLay [] ([34, 35] ++ List.range' 5 14) (pSet 5) := two_set.weak (by simp) (by decide)
  have si : Two aLay [] ([34, 35] ++ List.range' 5 14) (fun y => y) := two_id.weak (by simp) (by simp)
  have h := two_pick (fun v y => if iv v = 3 then nums 4 .u32 [34, 35] (pSet 5 y) else if iv v = 4 then nums 4 .u32 [34, 35] (pSet 5 y) else if iv v = 6 then pSet 5 y else if iv v = 7 then pSet 5 y else y) (two_number (lay := aLay) (o := 27) (lo := 1) (hi := 7) (by decide) (by decide) rfl) (o := 27) (T' := [34, 35] ++ List.range' 5 14) (by simp) (fun v => by
    by_cases h3 : iv v = 3
    · exact ⟨[], by simp only [h3, if_true]; exact s35⟩
    · by_cases h4 : iv v = 4
      · exact ⟨[], by simpa only [h4, if_true, show ¬ ((4 : Int) = 3) by decide, if_false] using s35⟩
      · by_cases h6 : iv v = 6
        · exact ⟨[], by simpa only [h6, if_true, show ¬ ((6 : Int) = 3) by decide, show ¬ ((6 : Int) = 4) by decide, if_false] using s0⟩
        · by_cases h7 : iv v = 7
          · exact ⟨[], by simpa only [h7, if_true, show ¬ ((7 : Int) = 3) by decide, show ¬ ((7 : Int) = 4) by decide, show ¬ ((7 : Int) = 6) by decide, if_false] using s0⟩
          · exact ⟨[], by simpa only [h3, h4, h6, h7, if_false] using si⟩) (by decide)
  exact h

structure ATwo (k : Nat) : Prop where
  like : ∀ x ds, Like (pAll k x ds).1.1 x.1
  ty : ∀ x ds, Typed aLay x.2 → Typed aLay (pAll k x ds).1.2
  wr : ∀ A ds p, Typed aLay A → (pAll k (.wr false [], A) ds).1.1 = .wr false p → p.length % 4 = 0 ∧ ∀ Z, Typed aLay Z → (pAll k (.rd p 0 0 false, Z) []).1.1 = .rd p p.length 0 false
  back : ∀ A b, Typed aLay A → (pAll k (.rd b 0 0 false, A) []).1.1 = .rd b b.length 0 false → ∀ B, Typed aLay B → (∀ j, j < 36 → j ≠ 28 → B j = (pAll k (.rd b 0 0 false, A) []).1.2 j) →
    (pAll k (.wr false [], B) (pAll k (.rd b 0 0 false, A) []).2).1.1 = .wr false b
theorem plain_two {k : Nat} {S T : List Nat} (h7 : k ≠ 7) (hf : Two aLay S T (pArgs k)) (n : ∀ j ∈ T, j < 36 ∧ j ≠ 28) : ATwo k := by
  have hr : ∀ x ds, pAll k x ds = (pArgs k x, ds) := fun x ds => if_neg h7
  refine ⟨fun x ds => by rw [hr]; exact hf.like x, fun x ds hx => by rw [hr]; exact hf.ty x hx, fun A ds p hA hw => ?_, fun A b hA hrd B hB hT => ?_⟩
  · rw [hr] at hw
    obtain ⟨d, q1, q2, q3⟩ := hf.wr A [] p hA hw
    rw [List.nil_append] at q1
    subst q1
    exact ⟨q2, fun Z hZ => by rw [hr]; have := (q3 p Z hZ (by rw [List.nil_append]; exact List.prefix_refl _)).1; rwa [List.nil_append] at this⟩
  · rw [hr] at hrd hT ⊢
    rw [hr]
    obtain ⟨q1, q2, q3⟩ := hf.back b 0 A b.length hA (Nat.zero_le _) hrd
    have := q3 B [] hB (fun j hj => hT j (n j hj).1 (n j hj).2)
    rw [this]
    simp
theorem seven_two : ATwo 7 := by
  have hf : Two aLay [0] [0, 23, 24, 25] (pArgs 7) := (two_comp (two_comp (two_comp (two_text (lay := aLay) (o := 0) (most := 64) (by decide) (by decide) rfl) (two_u64 (o := 23) rfl) (by decide)) (two_u32 (o := 24) rfl) (by decide)) (two_number (o := 25) (lo := 0) (hi := 2) (by decide) (by decide) rfl) (by decide)).weak (by simp) (by decide)
  have hM : Ext (fun _ => True) [] (fun (d : List UInt8) s => s.row 8192 d) := ext_row (most := 8192) (by decide)
  have hr : ∀ x ds, Clean (pArgs 7 x).1 → pAll 7 x ds = whole (pArgs 7) (fun x => x) (fun x => x) (fun (d : List UInt8) s => s.row 8192 d) 0 (fun _ => true) x ds := fun x ds hc => by
    unfold whole
    rw [clean_bad hc]
    rfl
  have e7 : ∀ x ds, pAll 7 x ds = ((((pArgs 7 x).1.row 8192 ds).2, (pArgs 7 x).2), ((pArgs 7 x).1.row 8192 ds).1) := fun x ds => rfl
  have hcl : ∀ x ds, Clean (pAll 7 x ds).1.1 → Clean (pArgs 7 x).1 := fun x ds h => clean_row h
  have hcw : ∀ x ds, Clean (whole (pArgs 7) (fun x => x) (fun x => x) (fun (d : List UInt8) s => s.row 8192 d) 0 (fun _ => true) x ds).1.1 → Clean (pArgs 7 x).1 := fun x ds h => whole_clean hf two_id two_id hM x ds h
  refine ⟨fun x ds => by rw [e7]; exact (like_row _ _ _).trans (hf.like x), fun x ds hx => by rw [e7]; exact hf.ty x hx, fun A ds p hA hw => ?_, fun A b hA hrd B hB hT => ?_⟩
  · have h1 := hr _ ds (hcl _ ds (by rw [hw]; rfl))
    rw [h1] at hw
    obtain ⟨q1, q2⟩ := whole_wr hf (by simp) two_id two_id hM A ds p hA trivial hw
    refine ⟨q1, fun Z hZ => ?_⟩
    have h2 := q2 Z hZ
    rw [hr _ _ (hcw _ _ (by rw [h2]; exact ⟨rfl, rfl⟩))]
    exact h2
  · have h1 := hr _ [] (hcl _ [] (by rw [hrd]; exact ⟨rfl, rfl⟩))
    rw [h1] at hrd hT ⊢
    have h2 := whole_back hf (by simp) two_id two_id hM (by simp) (by simp) (by simp) A b hA hrd B hB fun j hj => by
      have hn : j < 36 ∧ j ≠ 28 := by
        rcases hj with hj | hj | hj
        · simp at hj; omega
        · simp at hj
        · simp at hj
      exact hT j hn.1 hn.2
    rw [hr _ _ (hcw _ _ (by rw [h2]; rfl))]
    exact h2
theorem args_cases {k : Nat} (hk : thereN k) : k = 0 ∨ k = 1 ∨ k = 2 ∨ k = 3 ∨ k = 4 ∨ k = 5 ∨ k = 6 ∨ k = 7 ∨ k = 8 ∨ k = 9 ∨ k = 10 ∨ k = 11 ∨ k = 12 ∨ k = 13 ∨ k = 14 ∨ k = 15 ∨ k = 16 ∨ k = 17 ∨ k = 18 ∨ k = 19 ∨ k = 20 ∨ k = 21 ∨ k = 100 ∨ k = 101 ∨ k = 102 ∨ k = 103 ∨ k = 104 ∨ k = 105 := by unfold thereN at hk; omega
theorem args_atwo (k : Nat) (hk : thereN k) : ATwo k := by
  have file := two_text (lay := aLay) (o := 0) (most := 64) (by decide) (by decide) rfl
  have name := two_comp file (two_text (o := 2) (most := 255) (by decide) (by decide) rfl) (by decide)
  rcases args_cases hk with rfl | rfl | rfl | rfl | rfl | rfl | rfl | rfl | rfl | rfl | rfl | rfl | rfl | rfl | rfl | rfl | rfl | rfl | rfl | rfl | rfl | rfl | rfl | rfl | rfl | rfl | rfl | rfl
  · have h := @two_id aLay
    exact plain_two (by decide) h (by decide)
  · have h := file
    exact plain_two (by decide) h (by decide)
  · have h := two_comp (two_comp file two_set (by decide)) (two_if (two_truth (lay := aLay) (o := 19) rfl) (o := 19) (by simp) (two_time (o := 20) rfl rfl) (by decide)) (by decide)
    exact plain_two (by decide) h (by decide)
  · have h := name
    exact plain_two (by decide) h (by decide)
  · have h := two_comp file (two_u32 (o := 22) rfl) (by decide)
    exact plain_two (by decide) h (by decide)
  · have h := file
    exact plain_two (by decide) h (by decide)
  · have h := two_comp (two_comp file (two_u64 (o := 23) rfl) (by decide)) (two_u32 (o := 24) rfl) (by decide)
    exact plain_two (by decide) h (by decide)
  · exact seven_two
  · have h := two_comp name two_n8 (by decide)
    exact plain_two (by decide) h (by decide)
  · have h := two_comp name two_set (by decide)
    exact plain_two (by decide) h (by decide)
  · have h := two_comp name (two_comp two_set (two_text (o := 4) (most := 1024) (by decide) (by decide) rfl) (by decide)) (by decide)
    exact plain_two (by decide) h (by decide)
  · have h := two_comp name two_n11 (by decide)
    exact plain_two (by decide) h (by decide)
  · have h := name
    exact plain_two (by decide) h (by decide)
  · have h := name
    exact plain_two (by decide) h (by decide)
  · have h := two_comp name (two_comp (two_text (lay := aLay) (o := 1) (most := 64) (by decide) (by decide) rfl) (two_text (o := 3) (most := 255) (by decide) (by decide) rfl) (by decide)) (by decide)
    exact plain_two (by decide) h (by decide)
  · have h := two_comp (two_comp file (two_text (o := 1) (most := 64) (by decide) (by decide) rfl) (by decide)) (two_text (o := 3) (most := 255) (by decide) (by decide) rfl) (by decide)
    exact plain_two (by decide) h (by decide)
  · have h := two_comp (two_comp file (two_u64s (o := 30) (p := 31) (by decide) rfl rfl) (by decide)) (two_u32 (o := 24) rfl) (by decide)
    exact plain_two (by decide) h (by decide)
  · have h := two_comp (two_comp file (two_u64s (o := 30) (p := 31) (by decide) rfl rfl) (by decide)) (two_u32s (o := 32) (p := 33) (by decide) rfl rfl) (by decide)
    exact plain_two (by decide) h (by decide)
  · have h := file
    exact plain_two (by decide) h (by decide)
  · have h := file
    exact plain_two (by decide) h (by decide)
  · have h := file
    exact plain_two (by decide) h (by decide)
  · have h := two_comp (two_comp file (two_u64 (o := 23) rfl) (by decide)) (two_u32 (o := 24) rfl) (by decide)
    exact plain_two (by decide) h (by decide)
  · have h := @two_id aLay
    exact plain_two (by decide) h (by decide)
  · have h := two_text (lay := aLay) (o := 4) (most := 1024) (by decide) (by decide) rfl
    exact plain_two (by decide) h (by decide)
  · have h := @two_id aLay
    exact plain_two (by decide) h (by decide)
  · have h := two_text (lay := aLay) (o := 4) (most := 1024) (by decide) (by decide) rfl
    exact plain_two (by decide) h (by decide)
  · have h := @two_id aLay
    exact plain_two (by decide) h (by decide)
  · have h := @two_id aLay
    exact plain_two (by decide) h (by decide)

/-- Arguments that are typed, whatever their slice is. -/
def ArgsV.ok (a : ArgsV) : Prop := ∀ dv, Typed (argLay dv) (cellsOf a dv)
theorem ok_argsOf {A : Cells} (h : Typed aLay A) (ds : List UInt8) : (argsOf A ds).ok := fun dv => by
  have h1 : Typed (argLay dv) (upd A 28 dv) := h.of_alay
  intro j t hj
  have hlt : j < 36 := (List.getElem?_eq_some_iff.1 hj).1
  have h2 := cells_argsOf h1 ds j hlt
  rw [argsOf_upd] at h2
  have h3 := h1 j t hj
  rw [h2] at h3
  exact h3
theorem zeroA_ok : zeroArgs.ok := fun dv => typed_cells zero_good zero_few dv
theorem wargs_ok {k : Nat} {a : ArgsV} {dv : Value} {p : List UInt8} (ht : there (k : Int) = true) (h : wargs (k : Int) a dv = (p, 0)) : (pAll k (.wr false [], cellsOf a dv) a.data).1.1 = .wr false p := by
  simp only [wargs, ht, if_true, Int.toNat_natCast] at h
  generalize (pAll k (.wr false [], cellsOf a dv) a.data).1.1 = s at h
  cases s with
  | rd i q e b => simp at h
  | wr b out =>
    cases b
    · simp only [Prod.mk.injEq, and_true] at h; rw [h]
    · simp at h
theorem wargs_of {k : Nat} {a : ArgsV} {dv : Value} {p : List UInt8} (ht : there (k : Int) = true) (h : (pAll k (.wr false [], cellsOf a dv) a.data).1.1 = .wr false p) : wargs (k : Int) a dv = (p, 0) := by
  simp only [wargs, ht, if_true, Int.toNat_natCast, h]
/-- What WriteArgs wrote ReadArgs reads; it is a multiple of four bytes. -/
theorem args_wr (k : Nat) (hk : thereN k) (ht : there (k : Int) = true) (a : ArgsV) (dv : Value) (p : List UInt8) (ha : a.ok) (h : wargs (k : Int) a dv = (p, 0)) : p.length % 4 = 0 ∧ (rargs (k : Int) p).2 = 0 := by
  obtain ⟨q1, q2⟩ := (args_atwo k hk).wr _ _ p (ha dv).alay (wargs_ok ht h)
  refine ⟨q1, ?_⟩
  have := q2 _ (zeroA_ok (.slice none 0 0)).alay
  simp only [rargs, ht, if_true, Int.toNat_natCast, this]
  rw [if_pos (by simp [endedB])]
theorem rargs_eq {k : Nat} (ht : there (k : Int) = true) (b : List UInt8) : rargs (k : Int) b = (match (pAll k (.rd b 0 0 false, cellsOf zeroArgs (.slice none 0 0)) []).1.1 with | .rd _ pos err bad => if endedB b pos err bad then (argsOf (pAll k (.rd b 0 0 false, cellsOf zeroArgs (.slice none 0 0)) []).1.2 (pAll k (.rd b 0 0 false, cellsOf zeroArgs (.slice none 0 0)) []).2, 0) else (zeroArgs, 33) | .wr .. => (zeroArgs, 33)) := by
  simp only [rargs, ht, if_true, Int.toNat_natCast]
  rfl
/-- What ReadArgs read WriteArgs writes again. -/
theorem args_back' (k : Nat) (hk : thereN k) (ht : there (k : Int) = true) (b : List UInt8) (h : (rargs (k : Int) b).2 = 0) (dv : Value) : wargs (k : Int) (rargs (k : Int) b).1 dv = (b, 0) := by
  have R := args_atwo k hk
  have hl := R.like (.rd b 0 0 false, cellsOf zeroArgs (.slice none 0 0)) []
  have hb := R.back (cellsOf zeroArgs (.slice none 0 0)) b (zeroA_ok _).alay
  have hty := R.ty (.rd b 0 0 false, cellsOf zeroArgs (.slice none 0 0)) [] (zeroA_ok _).alay
  have e := rargs_eq ht b
  obtain ⟨y, hy⟩ : ∃ z, z = pAll k (.rd b 0 0 false, cellsOf zeroArgs (.slice none 0 0)) [] := ⟨_, rfl⟩
  rw [← hy] at hl hb hty e
  obtain ⟨⟨s, A'⟩, ds⟩ := y
  cases s with
  | wr q o => have := hl.1; cases this
  | rd inp pos err bad =>
    have hi : inp = b := hl.2
    subst hi
    rw [e] at h ⊢
    simp only at h ⊢
    split at h
    · rename_i hen
      rw [if_pos hen]
      obtain ⟨rfl, rfl, rfl⟩ := ended_iff hen
      have hok := ok_argsOf hty ds
      refine wargs_of ht (hb rfl _ (hok dv).alay fun j hj h28 => ?_)
      have h1 := cells_argsOf (hty.of_alay (dv := dv)) ds j hj
      rw [argsOf_upd, upd_ne _ _ h28] at h1
      exact h1.symm
    · simp at h
theorem rargs_ok (p : Int) (b : List UInt8) : (rargs p b).1.ok ∧ (rargs p b).1.data.length ≤ 8192 := by
  by_cases ht : there p = true
  · obtain ⟨k, rfl, hk⟩ := there_nat ht
    have hty := (args_atwo k hk).ty (.rd b 0 0 false, cellsOf zeroArgs (.slice none 0 0)) [] (zeroA_ok _).alay
    have hd : (pAll k (.rd b 0 0 false, cellsOf zeroArgs (.slice none 0 0)) []).2.length ≤ 8192 := by
      unfold pAll
      split
      · obtain ⟨s, hs⟩ : ∃ s, s = (pArgs 7 (.rd b 0 0 false, cellsOf zeroArgs (.slice none 0 0))).1 := ⟨_, rfl⟩
        show ((pArgs 7 (.rd b 0 0 false, cellsOf zeroArgs (.slice none 0 0))).1.row 8192 []).1.length ≤ 8192
        rw [← hs]
        cases s with
        | wr c o => simp [St.row]
        | rd i q e c => have := rbytes_length 8192 (by decide) i q e; show (rbytes 8192 i q e).1.length ≤ 8192; omega
      · simp
    rw [rargs_eq ht b]
    obtain ⟨y, hy⟩ : ∃ z, z = pAll k (.rd b 0 0 false, cellsOf zeroArgs (.slice none 0 0)) [] := ⟨_, rfl⟩
    rw [← hy] at hty hd ⊢
    obtain ⟨⟨s, A'⟩, ds⟩ := y
    cases s with
    | wr q o => exact ⟨zeroA_ok, by show zeroArgs.data.length ≤ 8192; decide⟩
    | rd inp pos err bad =>
      simp only
      split
      · exact ⟨ok_argsOf hty ds, hd⟩
      · exact ⟨zeroA_ok, by decide⟩
  · have ht' : there p = false := by simpa using ht
    have : rargs p b = (zeroArgs, 36) := by simp [rargs, ht']
    rw [this]
    exact ⟨zeroA_ok, by decide⟩

/-! ### How much a reading gives -/
def EntryV.small (e : EntryV) : Prop := e.name.length ≤ 255 ∧ e.handle.length ≤ 64
theorem row_small {s : St} {most : Int} (h0 : 0 ≤ most) (hs : s.isWr = false) (xs : List UInt8) : ((s.row most xs).1.length : Int) ≤ most := by
  cases s with
  | wr b o => cases hs
  | rd i q e c => exact rbytes_length most h0 i q e
theorem num1_other {n : Nat} {k : IntKind} {o j : Nat} {x : X} (h : j ≠ o) : (num1 n k o x).2 j = x.2 j := upd_ne _ _ h
theorem pText_other {m : Int} {o j : Nat} {x : X} (h : j ≠ o) : (pText m o x).2 j = x.2 j := upd_ne _ _ h
theorem pText_self {m : Int} {o : Nat} {x : X} : (pText m o x).2 o = some (.string (str (x.1.row m (sv (x.2 o))).1)) := upd_at _ _ _
theorem pTruth_other {o j : Nat} {x : X} (h : j ≠ o) : (pTruth o x).2 j = x.2 j := upd_ne _ _ h
theorem oneLine_small {plus : Bool} {s : St} {e : EntryV} (hs : s.isWr = false) (he : e.small) : (oneLine plus s e).1.small := by
  have h1 : (num1 8 .u64 0 (s, e.at)).1.isWr = false := (like_num1 8 .u64 0 (s, e.at)).1.trans hs
  obtain ⟨y1, hy1⟩ : ∃ z, z = num1 8 .u64 0 (s, e.at) := ⟨_, rfl⟩
  rw [← hy1] at h1
  have hy19 : y1.2 19 = some (.string (str e.handle)) := by rw [hy1, num1_other (by decide)]; rfl
  obtain ⟨y2, hy2⟩ : ∃ z, z = pText 255 1 y1 := ⟨_, rfl⟩
  have h2 : y2.1.isWr = false := by rw [hy2]; exact (like_pText 255 1 y1).1.trans h1
  have n2 : (sv (y2.2 1)).length ≤ 255 := by
    rw [hy2]
    show (sv (upd y1.2 1 _ 1)).length ≤ 255
    rw [upd_at, sv_str]
    have := row_small (most := 255) (by decide) h1 (sv (y1.2 1))
    omega
  have g2 : y2.2 19 = some (.string (str e.handle)) := by rw [hy2, pText_other (by decide)]; exact hy19
  obtain ⟨y3, hy3⟩ : ∃ z, z = num1 8 .u64 2 y2 := ⟨_, rfl⟩
  have h3 : y3.1.isWr = false := by rw [hy3]; exact (like_num1 8 .u64 2 y2).1.trans h2
  have n3 : y3.2 1 = y2.2 1 := by rw [hy3, num1_other (by decide)]
  have g3 : y3.2 19 = some (.string (str e.handle)) := by rw [hy3, num1_other (by decide)]; exact g2
  have hp : pEntry plus 0 (s, e.at) = if plus then pHandle 18 19 (pPost 3 y3) else y3 := by rw [hy3, hy2, hy1]; rfl
  show (sv ((pEntry plus 0 (s, e.at)).2 1)).length ≤ 255 ∧ (sv ((pEntry plus 0 (s, e.at)).2 19)).length ≤ 64
  rw [hp]
  cases plus
  · show (sv (y3.2 1)).length ≤ 255 ∧ (sv (y3.2 19)).length ≤ 64
    rw [n3, g3, sv_str]
    exact ⟨n2, he.2⟩
  · show (sv ((pHandle 18 19 (pPost 3 y3)).2 1)).length ≤ 255 ∧ (sv ((pHandle 18 19 (pPost 3 y3)).2 19)).length ≤ 64
    have f4 : Fr 3 15 y3 (pPost 3 y3) := (Fr.refl _ _ _).post (by omega)
    obtain ⟨y4, hy4⟩ : ∃ z, z = pPost 3 y3 := ⟨_, rfl⟩
    rw [← hy4] at f4 ⊢
    have h4 : y4.1.isWr = false := by rw [hy4]; exact (like_pPost 3 y3).1.trans h3
    have n4 := (f4 1 (by omega)).trans n3
    have g4 := (f4 19 (by omega)).trans g3
    have f5 : Fr 18 2 y4 (pHandle 18 19 y4) := (Fr.refl _ _ _).handle (by omega) (by omega)
    rw [f5 1 (by omega), n4]
    refine ⟨n2, ?_⟩
    unfold pHandle pIf
    split
    · show (sv ((pText 64 19 (pTruth 18 y4)).2 19)).length ≤ 64
      rw [pText_self, sv_str]
      have h5 : (pTruth 18 y4).1.isWr = false := (like_pTruth 18 y4).1.trans h4
      have := row_small (most := 64) (by decide) h5 (sv ((pTruth 18 y4).2 19))
      omega
    · show (sv ((pTruth 18 y4).2 19)).length ≤ 64
      rw [pTruth_other (by decide), g4, sv_str]
      exact he.2
theorem lines_small (plus : Bool) (n : Nat) : ∀ (i : Nat) (es : List EntryV) (s : St), s.isWr = false → es.length = i → i ≤ 1025 → (s.bad = false → i ≤ 1024) → (∀ e ∈ es, e.small) → (∀ e ∈ (lines plus n i es s).1, e.small) ∧ (lines plus n i es s).1.length ≤ 1025 := by
  induction n with
  | zero => intro i es s hs hl hi hb he; exact ⟨he, by show es.length ≤ 1025; omega⟩
  | succ n ih =>
    intro i es s hs hl hi hb he
    rw [lines]
    split
    · exact ⟨he, by show es.length ≤ 1025; omega⟩
    · rename_i hbad
      have hbf : s.bad = false := by simpa using hbad
      have hi' := hb hbf
      simp only
      split
      · exact ⟨he, by show es.length ≤ 1025; omega⟩
      · rw [if_pos hl.symm, if_pos hl.symm]
        obtain ⟨s1, hs1⟩ : ∃ z, z = (s.truth (decide ((i : Int) < (es.length : Int)))).2.must (decide ((i : Int) < 1024)) := ⟨_, rfl⟩
        have hz : (es ++ [zeroE])[i]?.getD zeroE = zeroE := by rw [← hl]; simp
        have hset : (es ++ [zeroE]).set i (oneLine plus s1 zeroE).1 = es ++ [(oneLine plus s1 zeroE).1] := by rw [← hl]; simp
        rw [← hs1, hz, hset]
        have h1 : s1.isWr = false := by rw [hs1]; exact ((like_must _ _).trans (like_truth _ _)).1.trans hs
        refine ih (i + 1) _ _ ((like_oneLine plus s1 zeroE).1.trans h1) (by simp [hl]) (by omega) (fun hq => ?_) fun e hm => ?_
        · have hb1 : s1.bad = false := by
            cases hbb : s1.bad
            · rfl
            · have := worse_pEntry plus 0 (s1, zeroE.at) hbb
              have h3 : (oneLine plus s1 zeroE).2.bad = true := this
              rw [h3] at hq; exact hq
          rw [hs1] at hb1
          cases hts : (s.truth (decide ((i : Int) < (es.length : Int)))).2 with
          | wr b o => rw [hts] at hb1; simp only [St.must, St.bad, Bool.or_eq_false_iff, Bool.not_eq_false', decide_eq_true_eq] at hb1; omega
          | rd a b c d => rw [hts] at hb1; simp only [St.must, St.bad, Bool.or_eq_false_iff, Bool.not_eq_false', decide_eq_true_eq] at hb1; omega
        · rw [List.mem_append, List.mem_singleton] at hm
          rcases hm with hm | rfl
          · exact he e hm
          · exact oneLine_small h1 ⟨by decide, by decide⟩
theorem room_small {es : List EntryV} (h : ∀ e ∈ es, e.small) : roomFrom 0 es ≤ es.length * 519 := by
  unfold roomFrom
  rw [List.drop_zero]
  induction es with
  | nil => simp
  | cons e l ih =>
    have h1 := h e (by simp)
    have h2 := ih fun x hx => h x (List.mem_cons_of_mem _ hx)
    simp only [List.map_cons, List.sum_cons, List.length_cons, EntryV.room]
    have := h1.1; have := h1.2
    omega
theorem rAllE_small (k : Nat) (b : List UInt8) (A : Cells) : (rAllE k (.rd b 0 0 false, A) [] []).2.1.length ≤ 8192 ∧ (∀ e ∈ (rAllE k (.rd b 0 0 false, A) [] []).2.2, EntryV.small e) ∧ (rAllE k (.rd b 0 0 false, A) [] []).2.2.length ≤ 1025 := by
  have hnil : ([] : List UInt8).length ≤ 8192 ∧ (∀ e ∈ ([] : List EntryV), EntryV.small e) ∧ ([] : List EntryV).length ≤ 1025 := ⟨by decide, (fun e he => by cases he), by decide⟩
  unfold rAllE
  split
  · exact hnil
  · unfold rTellsE
    split
    · obtain ⟨y, hy⟩ : ∃ z, z = rFront k (.rd b 0 0 false, A) := ⟨_, rfl⟩
      have hyw : y.1.isWr = false := by rw [hy]; exact (like_rFront _ _).1
      rw [← hy]
      unfold gAllE
      split
      · have h1 : ((num1 8 .u64 82 y).1.must (decide ((([] : List EntryV).length : Int) ≤ 1024))).isWr = false := ((like_must _ _).trans (like_num1 8 .u64 82 y)).1.trans hyw
        have := lines_small (k == 17) (([] : List EntryV).length + 1026) 0 [] _ h1 rfl (by decide) (fun _ => by decide) (fun e he => by cases he)
        exact ⟨by show ([] : List UInt8).length ≤ 8192; decide, this.1, this.2⟩
      · unfold gAll
        split
        · refine ⟨?_, (fun e he => by cases he), by show ([] : List EntryV).length ≤ 1025; decide⟩
          have hw : (pGood 6 y).1.isWr = false := (like_pTruth 78 _).1.trans ((like_num1 4 .u32 77 y).1.trans hyw)
          have := row_small (most := 8192) (by decide) hw []
          show ((pGood 6 y).1.row 8192 []).1.length ≤ 8192
          omega
        · split
          · exact hnil
          · exact hnil
    · exact hnil
theorem rresE_small (p : Int) (b : List UInt8) : (rresE p b).1.data.length ≤ 8192 ∧ (rresE p b).1.entries.length ≤ 1025 ∧ roomFrom 0 (rresE p b).1.entries ≤ 600000 := by
  have hz : zeroRes.data.length ≤ 8192 ∧ zeroRes.entries.length ≤ 1025 ∧ roomFrom 0 zeroRes.entries ≤ 600000 := ⟨by decide, by decide, by decide⟩
  unfold rresE
  split
  · have h := rAllE_small p.toNat b (resCells zeroRes (.slice none 0 0) (.slice none 0 0))
    have hroom := room_small h.2.1
    simp only
    split
    · split
      · exact ⟨h.1, h.2.2, Nat.le_trans hroom (by have := h.2.2; omega)⟩
      · exact hz
    · exact hz
  · exact hz

end Go.Proofs.Ytanknjpcgceccaa
