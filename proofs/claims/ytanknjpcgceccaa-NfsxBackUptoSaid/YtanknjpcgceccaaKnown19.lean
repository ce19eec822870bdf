/- law19's known: the chapter's example. -/
import Derived.Test.YtanknjpcgceccaaCoder
namespace Go.Proofs.Ytanknjpcgceccaa
open Go.RowKit

set_option maxRecDepth 100000 in
set_option maxHeartbeats 2000000 in
theorem args4_any (c p : Nat) (ao : Option Addr) (cap : Nat) (bad : Bool) (bs : List UInt8) (g : Nat) (fs : List UInt8) (n : Int) (w : World) (h : CW w c p ao cap bad bs) (hlen : bs.length + fs.length + 20 ≤ 20000000) (hn : 0 ≤ n ∧ n < 4294967296)
    (h0 : w.cell? ⟨g, 0, none⟩ = some (.string (str fs)) ∧ w.frozen? ⟨g, 0, none⟩ = false) (h22 : w.cell? ⟨g, 22, none⟩ = some (.int .u32 n)) (hg : ¬ FC c p ao g) :
    Calls Try.prog 22 #[.pointer (some ⟨c, 0, none⟩), .int .i64 4, .pointer (some ⟨g, 0, none⟩)] w (CPost w c p ao (.tuple #[]) (bad || !decide ((fs.length : Int) ≤ 64)) (bs ++ row fs ++ be 4 n)) := by
  have H := hid h; have HN := hid hn; have H22 := hid h22; have HG := hid hg
  have HT := hid (textw_any c p ao cap bad bs g 0 64 fs w h (by omega) ⟨h0.1, h0.2, hg⟩)
  have hrl := row_length fs
  have hglt : g < w.heap.size := World.block_lt_of_cell? w ⟨g, 22, none⟩ h22
  clear h h0 h22 hg hn
  go_enter Try.func22, Try.ntmps22
  go_wp2_with fail
  refine HT.out.mono ?_
  rintro e w1 ⟨ao1, cap1, rfl, hw1, hg1⟩
  have hw1' := hid hw1
  have hg1' := hid hg1
  have h22' := hid (hg1.mods.cell H22.out HG.out)
  have hap := hid (hg1.apart HG.out hglt)
  clear hw1 hg1 HT
  go_wp2_with fail
  have hm1 : Mods (fun _ => False) w1 (w1.alloc (.cells #[.pointer (some ⟨g, 22, none⟩)] 123)) := Mods.alloc _ _ _
  refine (u32w_any c p ao1 cap1 _ _ _ _ [(⟨g, 22, none⟩, n)] _ (hw1'.out.new hm1) (by simp; omega) (by simpa using HN.out) (Sl.one _ _ _) (fun q hq => ?hap) (by
    intro x hx
    simp only [List.mem_singleton] at hx
    subst hx
    exact ⟨hm1.cell h22'.out (fun h => h), hap.out⟩)).mono ?_
  case hap =>
    have hq' : w1.heap.size = q := by simpa [blk] using hq.2
    subst hq'
    intro hf
    rcases hf with e | e | e
    · have := hw1'.out.lt; omega
    · have := hw1'.out.wr.lt; omega
    · have := hw1'.out.wr.own.lt _ e; omega
  rintro e w2 ⟨ao2, cap2, rfl, hw2, hg2⟩
  have hfin : Hid (CW w2 c p ao2 cap2 (bad || !decide ((fs.length : Int) ≤ 64)) (bs ++ row fs ++ be 4 n)) := hid (by simpa [bes] using hw2)
  have hgf : Hid (CGrew w c p ao w2 ao2) := hg1'.out.trans ⟨(hm1.mono fun _ _ h => h.elim).trans hg2.mods, fun k hk => by
    rcases hg2.fresh k hk with h | h
    · exact .inl h
    · simp at h; exact .inr (by omega)⟩
  clear hw2 hg2
  go_wp2
  go_end0
  exact ⟨ao2, cap2, rfl, hfin.out, hgf.out⟩

/-- The example's arguments. -/
abbrev exArgs : Array Value := #[Value.string ⟨#[97, 98, 99, 100]⟩, Value.string ⟨#[]⟩, Value.string ⟨#[]⟩, Value.string ⟨#[]⟩, Value.string ⟨#[]⟩, Value.bool false, Value.bool false,
  Value.bool false, Value.bool false, Value.int .i64 0, Value.int .u32 0, Value.int .u32 0, Value.int .u64 0, Value.int .i64 0, Value.int .i64 0, Value.int .u32 0,
  Value.int .u32 0, Value.int .u32 0, Value.int .u32 0, Value.bool false, Value.int .u32 0, Value.int .u32 0, Value.int .u32 63, Value.int .u64 0,
  Value.int .u32 0, Value.int .i64 0, Value.int .i64 0, Value.int .i64 0, Value.slice none 0 0, Value.int .u64 0, Value.int .u64 0, Value.int .u64 0,
  Value.int .u32 0, Value.int .u32 0, Value.int .u32 0, Value.int .u32 0]
theorem ex_bytes : ([] : List UInt8) ++ row [97, 98, 99, 100] ++ be 4 63 = [0, 0, 0, 4, 97, 98, 99, 100, 0, 0, 0, 63] := by decide +kernel

theorem is_four (w : World) : Calls Try.prog 20 #[.int .i64 4] w fun e w' => e = .returned (.bool true) ∧ w = w' := by
  go_enter Try.func20, Try.ntmps20
  go_wp2
  go_ret
  exact ⟨rfl, rfl⟩

set_option maxRecDepth 100000 in
set_option maxHeartbeats 2000000 in
theorem write_ex (w : World) :
    Calls Try.prog 12 #[.int .i64 4, .agg exArgs] w fun e w' => ∃ xo xc, e = .returned (.tuple #[.slice xo 12 xc, .int .i64 0]) ∧ OwnB w' xo xc [0, 0, 0, 4, 97, 98, 99, 100, 0, 0, 0, 63] ∧ Mods (fun _ => False) w w' := by
  go_enter Try.func12, Try.ntmps12
  go_wp2_with fail
  refine (is_four _).mono ?_
  rintro e w0 ⟨rfl, rfl⟩
  have hm0 : Mods (fun _ => False) w (w.alloc (.cells exArgs 30)) := Mods.alloc _ _ _
  have hsz : (w.alloc (.cells exArgs 30)).heap.size = w.heap.size + 1 := by simp
  have ho : (w.alloc (.cells exArgs 30)).heap[w.heap.size]? = some (.cells exArgs 30 (0, 0)) := heap_alloc_new w _
  generalize w.alloc (.cells exArgs 30) = w0 at hm0 hsz ho ⊢
  have HM0 := hid hm0; have HO := hid ho
  clear hm0 ho
  go_wp2_with fail
  refine (NewWriter_any _).mono ?_
  rintro e w1 ⟨p, rfl, hp, hw1, hm1⟩
  have hlt1 := hw1.lt
  have hm2 : Mods (fun _ => False) w0 (w1.alloc (.cells #[.pointer none, .pointer (some ⟨p, 0, none⟩), .bool false] 69)) := hm1.trans (Mods.alloc _ _ _)
  have hcw : CW (w1.alloc (.cells #[.pointer none, .pointer (some ⟨p, 0, none⟩), .bool false] 69)) w1.heap.size p none 0 false [] := ⟨heap_alloc_new w1 _, hw1.alloc _, by omega, fun h => h⟩
  have ho2 := hm2.obj HO.out (fun h => h)
  have hsz1 := hm1.size
  have hA := hid (args4_any w1.heap.size p none 0 false [] w.heap.size [97, 98, 99, 100] 63 _ hcw (by simp) (by decide) ⟨by simp [World.cell?, ho2, exArgs]; rfl, by simp [World.frozen?, ho2]⟩ (by simp [World.cell?, ho2, exArgs]) (fun hf => by
    rcases hf with e | e | e
    · omega
    · omega
    · exact e))
  have hm02 := hid (HM0.out.trans hm2)
  have hnew : Hid (∀ k, k < w.heap.size → ¬ FC w1.heap.size p none k) := fun k hk hf => by
    rcases hf with e | e | e
    · omega
    · omega
    · exact e
  clear hcw ho2 hm2 hm1 hw1 HO HM0
  go_wp2_with fail
  refine hA.out.mono ?_
  rintro e w3 ⟨ao3, cap3, rfl, hw3, hg3⟩
  rw [ex_bytes] at hw3
  have hm03 := hid (hm02.out.step hg3.mods fun k hk hf => absurd hf (hnew.out k hk))
  have hw3' : Hid (CW w3 w1.heap.size p ao3 cap3 false [0, 0, 0, 4, 97, 98, 99, 100, 0, 0, 0, 63]) := hid (by simpa using hw3)
  have hc1 := hw3'.out.c1
  have hc2 := hw3'.out.c2
  clear hA hw3 hg3 hnew hm02
  go_wp2_with fail
  refine (Done_any p ao3 cap3 _ _ hw3'.out.wr (by simp)).mono ?_
  rintro e w4 ⟨xo, xc, rfl, ho4, hg4⟩
  have hm04 := hid (hm03.out.trans (hg4.mods.mono fun _ _ h => h))
  have ho4' := hid ho4
  clear ho4 hg4 hc1 hc2
  go_wp2
  go_ret2
  exact ⟨xo, xc, rfl, ho4'.out, hm04.out⟩

set_option maxRecDepth 100000 in
set_option maxHeartbeats 2000000 in
theorem known_any (w : World) :
    Calls Try.prog 8 #[] w fun e w' => e = .returned (.bool true) ∧ Mods (fun _ => False) w w' := by
  go_enter Try.func8, Try.ntmps8
  go_wp2_with fail
  refine (write_ex w).mono ?_
  rintro e w1 ⟨xo, xc, rfl, ho, hm⟩
  have hcv := run_conv ho.sl
  rw [show str [0, 0, 0, 4, 97, 98, 99, 100, 0, 0, 0, 63] = ⟨#[0, 0, 0, 4, 97, 98, 99, 100, 0, 0, 0, 63]⟩ from rfl] at hcv
  have hcv' : (convert 22 9 (.slice xo 12 xc)).run Try.prog w1 = .ok (.string ⟨#[0, 0, 0, 4, 97, 98, 99, 100, 0, 0, 0, 63]⟩) w1 := hcv
  have hm' := hid hm
  clear hm ho
  go_wp2
  go_ret
  exact ⟨rfl, hm'.out⟩

end Go.Proofs.Ytanknjpcgceccaa
