/- The reference's Out: its state, upto, num, text. -/
import Derived.Test.YtanknjpcgceccaaGen10
import Derived.Test.YtanknjpcgceccaaReg7
namespace Go.Proofs.Ytanknjpcgceccaa
open Go.RowKit

/-- An Out at block c that writes through the writer at block p. -/
structure OW (w : World) (c p : Nat) (ao : Option Addr) (cap : Nat) (bad : Bool) (bs : List UInt8) : Prop where
  obj : w.heap[c]? = some (.cells #[.pointer (some ⟨p, 0, none⟩), .bool bad] 93 (0, 0))
  wr : WR w p ao cap bs
  ne : c ≠ p
  sep : ¬ blk ao c
section
variable {w : World} {c p : Nat} {ao : Option Addr} {cap : Nat} {bad : Bool} {bs : List UInt8}
theorem OW.lt (h : OW w c p ao cap bad bs) : c < w.heap.size := lt_of_heap h.obj
theorem OW.c0 (h : OW w c p ao cap bad bs) : w.cell? ⟨c, 0, none⟩ = some (.pointer (some ⟨p, 0, none⟩)) := by simp [World.cell?, h.obj]
theorem OW.c1 (h : OW w c p ao cap bad bs) : w.cell? ⟨c, 1, none⟩ = some (.bool bad) := by simp [World.cell?, h.obj]
theorem OW.f1 (h : OW w c p ao cap bad bs) : w.frozen? ⟨c, 1, none⟩ = false := by simp [World.frozen?, h.obj]
theorem OW.keep {w' : World} (h : OW w c p ao cap bad bs) {F : Nat → Prop} (hm : Mods F w w') (hc : ¬ F c) (hp : ¬ F p) (hF : ∀ k, blk ao k → ¬ F k) : OW w' c p ao cap bad bs :=
  ⟨hm.obj h.obj hc, h.wr.keep hm hp hF, h.ne, h.sep⟩
theorem OW.set1 (h : OW w c p ao cap bad bs) (b : Bool) : OW (w.setCell ⟨c, 1, none⟩ (.bool b)) c p ao cap b bs := by
  have hm : Mods (fun k => k = c) w (w.setCell ⟨c, 1, none⟩ (.bool b)) := Mods.setCell (F := fun k => k = c) (a := ⟨c, 1, none⟩) rfl _
  refine ⟨?_, h.wr.keep hm (fun e => h.ne e.symm) fun k hk e => h.sep (e ▸ hk), h.ne, h.sep⟩
  simp [World.setCell, Array.getElem?_modify, h.obj]
theorem OW.wrote {w' : World} {ao' : Option Addr} {cap' : Nat} {bs' : List UInt8} (h : OW w c p ao cap bad bs) (hw : WR w' p ao' cap' bs') (hg : WGrew w p ao w' ao') : OW w' c p ao' cap' bad bs' :=
  ⟨hg.mods.obj h.obj fun e => by
    rcases e with e | e
    · exact h.ne e
    · exact h.sep e, hw, h.ne, fun hk => by
    rcases hg.fresh c hk with e | e
    · exact h.sep e
    · have := h.lt; omega⟩
end

/-- The Out at block c, that writes through the writer at block p, is at s. -/
def OO (w : World) (c p : Nat) (F : Nat → Prop) (s : St) : Prop := ∃ bad out ao cap, s = .wr bad out ∧ OW w c p ao cap bad out ∧ F = FC c p ao
theorem OO.lt {w : World} {c p : Nat} {F : Nat → Prop} {s : St} (h : OO w c p F s) : ∀ k, F k → k < w.heap.size := by
  obtain ⟨bad, out, ao, cap, rfl, h, rfl⟩ := h
  rintro k (rfl | rfl | hk)
  · exact h.lt
  · exact h.wr.lt
  · exact h.wr.own.lt _ hk
theorem OO.keep {w w' : World} {c p : Nat} {F : Nat → Prop} {s : St} (h : OO w c p F s) {G : Nat → Prop} (hm : Mods G w w') (hF : ∀ k, F k → ¬ G k) : OO w' c p F s := by
  obtain ⟨bad, out, ao, cap, rfl, h, rfl⟩ := h
  exact ⟨bad, out, ao, cap, rfl, h.keep hm (hF _ (.inl rfl)) (hF _ (.inr (.inl rfl))) (fun k hk => hF k (.inr (.inr hk))), rfl⟩
theorem OO.c0 {w : World} {c p : Nat} {F : Nat → Prop} {s : St} (h : OO w c p F s) : w.cell? ⟨c, 0, none⟩ = some (.pointer (some ⟨p, 0, none⟩)) := by
  obtain ⟨bad, out, ao, cap, rfl, h, rfl⟩ := h
  exact h.c0

/-- An Out, and a struct that is boxed in block g. -/
structure OAt (w : World) (c p : Nat) (F : Nat → Prop) (g : Nat) (x : X) : Prop where
  co : OO w c p F x.1
  bl : Blk w g x.2
  ap : ¬ F g
theorem OAt.keep {w w' : World} {c p : Nat} {F : Nat → Prop} {g : Nat} {x : X} (h : OAt w c p F g x) (hm : Mods (fun _ => False) w w') : OAt w' c p F g x := ⟨h.co.keep hm fun _ _ h => h, h.bl.keep hm fun h => h, h.ap⟩
/-- What a call leaves. -/
def OQ (w : World) (c p : Nat) (F : Nat → Prop) (g : Nat) (x : X) (e : Ending) (w' : World) : Prop := e = .returned (.tuple #[]) ∧ ∃ F', Hid (OAt w' c p F' g x) ∧ Hid (GG w F g w' F')

/-- Behind the writer's call. -/
theorem OAt.wrote {w w' : World} {c p : Nat} {ao ao' : Option Addr} {cap cap' : Nat} {bad : Bool} {bs bs' : List UInt8} {g : Nat} {A : Cells} (h : OW w c p ao cap bad bs) (hb : Blk w g A) (hg : ¬ FC c p ao g) (hw : WR w' p ao' cap' bs') (hgr : WGrew w p ao w' ao') :
    ∃ F', Hid (OAt w' c p F' g (.wr bad bs', A)) ∧ Hid (GG w (FC c p ao) g w' F') := by
  have hgg : GG w (FC c p ao) g w' (FC c p ao') := ⟨hgr.mods.mono fun k _ h => .inl (.inr h), fun k hk => by
    rcases hk with rfl | rfl | hk
    · exact .inl (.inl rfl)
    · exact .inl (.inr (.inl rfl))
    · exact (hgr.fresh k hk).imp (fun h => .inr (.inr h)) id⟩
  exact ⟨FC c p ao', ⟨⟨bad, bs', ao', cap', rfl, h.wrote hw hgr, rfl⟩, hb.keep hgr.mods (fun e => hg (.inr e)), hgg.apart hg hb.lt⟩, hgg⟩

/-- 'o.W.Put(x.f)' in a drawn region. -/
theorem OAt.put7 {w : World} {c p : Nat} {F : Nat → Prop} {g : Nat} {x : X} (h : OAt w c p F g x) {s' : St} {v : Value} {f : FuncId} {o : Nat}
    (hcall : ∀ w' ao cap bad out, x.1 = .wr bad out → WR w' p ao cap out → Calls Try.prog f #[.pointer (some ⟨p, 0, none⟩), v] w' (fun e w2 => ∃ bs, s' = .wr bad bs ∧ WPost w' p ao bs e w2))
    {id t0 tg d T2 i tf : Nat} {y0 y1 y2 y3 y4 y5 y6 : TypeId} {s : String} {at_ : Array TypeId} {n : Nat} {a : Act} {Q : Exit → Act → World → Prop} (hp : ∀ c (a : Act) (d : Nat) v w, Q (.panic c) (a.put (some d) v) w → Q (.panic c) a w)
    {l : Array Oper} (hl : l = Go.Proofs.Ytanknjpcgceccaa.put7 t0 tg d 93 T2 0 i 89 tf y0 y1 y2 y3 y4 y5 y6 s at_ f) (hB : put7B l = true)
    (hs : a.tmps.size = n) (h0 : a.tmps[t0]? = some (.pointer (some ⟨c, 0, none⟩))) (hg : a.tmps[tg]? = some (.pointer (some ⟨g, 0, none⟩))) (hd : t0 < d ∧ tg < d ∧ d + 6 < n)
    (hE : ∀ (a : Act) (w : World) (pw v : Value), a.eval (.tmp (d + 3)) = pw → a.eval (.tmp (d + 5)) = v → (execOp a.eval ⟨some (d + 6), .call { callee := .value (.func f), args := #[.tmp (d + 3), .tmp (d + 5)], argTypes := at_ }, y6, s, #[⟨3, .data⟩, ⟨5, .data⟩], none⟩).run Try.prog w = .ok (.enter f #[pw, v]) w)
    (hF1 : ∀ w, (Instr.fieldAt T2 (.pointer (some ⟨g, 0, none⟩)) i).run Try.prog w = .ok (.pointer (some ⟨g, o, none⟩)) w) (hL1 : ∀ w, w.rangeAt g o [v] → (Instr.loadAt tf (.pointer (some ⟨g, o, none⟩))).run Try.prog w = .ok v w) (hv : x.2 o = some v)
    (hQ : ∀ F' w', Hid (OAt w' c p F' g (s', x.2)) → Hid (GG w F g w' F') → Q .normal (((((((a.put (some d) (.pointer (some ⟨c, 0, none⟩))).put (some (d + 1)) (.pointer (some ⟨c, 0, none⟩))).put (some (d + 2)) (.pointer (some ⟨c, 0, none⟩))).put (some (d + 3)) (.pointer (some ⟨p, 0, none⟩))).put (some (d + 4)) (.pointer (some ⟨g, o, none⟩))).put (some (d + 5)) v).put (some (d + 6)) (.tuple #[])) w') :
    (Code.region id l true).wp Try.prog Q a w := by
  have hr : w.drew.rangeAt g o [v] := by
    intro j u hj
    cases j with
    | zero => obtain rfl := Option.some.inj hj; exact (h.bl.cell o).trans hv
    | succ j => simp at hj
  have hc0 : w.drew.cell? ⟨c, 0, none⟩ = some (.pointer (some ⟨p, 0, none⟩)) := h.co.c0
  refine wp_put7 (by kernel_rfl) hp hl hB hs h0 hg hd (fun w => by simp [execOp]) (fun a w h1 h2 => hE a w _ _ h1 h2) (p1 := .pointer (some ⟨c, 0, none⟩)) (pw := .pointer (some ⟨p, 0, none⟩)) (fun w => by go_simp) (by clear hL1 hF1 hE hQ hcall; go_simp) hF1 (hL1 _ hr) ?_
  obtain ⟨bad, out, ao, cap, hs, how, hF⟩ := h.co
  have hm : Mods (fun _ => False) w w.drew := Mods.drew _ w
  have how' := how.keep hm (fun h => h) (fun h => h) (fun _ _ h => h)
  refine (hcall w.drew ao cap bad out hs how'.wr).mono ?_
  rintro e w2 ⟨bs, rfl, ao', cap', rfl, hw, hgr⟩
  refine ⟨_, rfl, ?_⟩
  subst hF
  obtain ⟨F', q1, q2⟩ := OAt.wrote how' (h.bl.keep hm fun h => h) h.ap hw hgr
  exact hQ F' w2 q1 ((GG.new g hm).trans q2.out)

set_option maxRecDepth 100000 in
set_option maxHeartbeats 1000000 in
theorem upto_out (c p : Nat) (F : Nat → Prop) (g : Nat) (x : X) (v lo hi : Int) (w : World) (h : OAt w c p F g x) (hk : x.1.size + 4 ≤ 1000000) :
    Calls Try.prog 44 #[.pointer (some ⟨c, 0, none⟩), .int .i64 v, .int .i64 lo, .int .i64 hi] w (OQ w c p F g ((x.1.number lo hi v).2, x.2)) := by
  obtain ⟨s, A⟩ := x
  obtain ⟨bad, out, ao, cap, hs, how, rfl⟩ := h.co
  simp only at hs
  subst hs
  have hsz : out.length + 4 ≤ 1000000 := hk
  show Calls _ _ _ _ (OQ w c p (FC c p ao) g (.wr (bad || !decide (lo ≤ v ∧ v ≤ hi)) (out ++ be 4 (IntKind.u32.wrap v)), A))
  have hc0 := how.c0; have hc1 := how.c1; have hf1 := how.f1
  have HB := hid h.bl; have HA := hid h.ap; have HO := hid how
  have hwr := wrap_u32_range v
  obtain ⟨b0, hb0⟩ : ∃ b0, b0 = (bad || !decide (lo ≤ v ∧ v ≤ hi)) := ⟨_, rfl⟩
  rw [← hb0]
  have hset := how.set1 b0
  have hms : Mods (fun k => k = c) w (w.setCell ⟨c, 1, none⟩ (.bool b0)) := Mods.setCell (F := fun k => k = c) (a := ⟨c, 1, none⟩) rfl _
  have hgc : g ≠ c := fun e => h.ap (.inl e)
  have hb2 := h.bl.keep hms hgc
  have HC := hid (RU32_any p ao cap out (IntKind.u32.wrap v) _ hset.wr (by omega) ⟨hwr.1, hwr.2⟩)
  have HS := hid hset; have HB2 := hid hb2
  have HG1 := hid (GG.mk (F := FC c p ao) (g := g) (w := w) (w' := w.setCell ⟨c, 1, none⟩ (.bool b0)) (F' := FC c p ao) (hms.mono fun k _ e => .inl (.inl e)) fun _ h => .inl h)
  have hcs0 := hset.c0
  have hcase : (bad = true ∧ b0 = true) ∨ (bad = false ∧ v < lo ∧ b0 = true) ∨ (bad = false ∧ ¬ v < lo ∧ hi < v ∧ b0 = true) ∨ (bad = false ∧ ¬ v < lo ∧ ¬ hi < v ∧ b0 = false) := by
    cases bad
    · by_cases h1 : v < lo
      · exact .inr (.inl ⟨rfl, h1, by rw [hb0, decide_eq_false (by omega)]; rfl⟩)
      · by_cases h2 : hi < v
        · exact .inr (.inr (.inl ⟨rfl, h1, h2, by rw [hb0, decide_eq_false (by omega)]; rfl⟩))
        · exact .inr (.inr (.inr ⟨rfl, h1, h2, by rw [hb0, decide_eq_true (by omega)]; rfl⟩))
    · exact .inl ⟨rfl, by rw [hb0]; rfl⟩
  clear hb0 hset hms hgc hb2 h hk how hwr
  rcases hcase with ⟨rfl, rfl⟩ | ⟨rfl, h1, rfl⟩ | ⟨rfl, h1, h2, rfl⟩ | ⟨rfl, h1, h2, rfl⟩
  all_goals
    go_enter Try.func44, Try.ntmps44
    go_wp2_with fail
    refine HC.out.mono ?_
    rintro e w1 ⟨ao1, cap1, rfl, hw1, hg1⟩
    obtain ⟨F', q1, q2⟩ := OAt.wrote HS.out HB2.out HA.out hw1 hg1
    clear hw1 hg1 HC
    go_wp2
    go_end0
    exact ⟨rfl, F', q1, HG1.out.trans q2.out⟩

end Go.Proofs.Ytanknjpcgceccaa
