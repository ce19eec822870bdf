/- api's structs as arguments: what they hold. (Printed by wip/tools/gen_opens.py.) -/
import Derived.Test.YtanknjpcgceccaaOpen
import Derived.Test.YtanknjpcgceccaaSameR
namespace Go.Proofs.Ytanknjpcgceccaa
open Go.RowKit Go.ChangeShapes Go.WideShapes

theorem seg {cs s : List Value} {k n : Nat} (h : (cs.drop k).take n = s) : cs.drop k = s ++ cs.drop (k + n) := by
  rw [← h, ← List.drop_drop, List.take_append_drop]
theorem str_of (s : ByteArray) : s = str s.data.toList := by cases s; simp [str]

section
variable {H : Type} {enc : TypeId × Value → H} {w : World}

set_option maxRecDepth 100000 in
set_option maxHeartbeats 1000000 in
theorem open_TimeV {m : Nat} {cs : List Value} {y : DataW H × List MemPlace} (h : Tr enc Try.prog w m 26 cs y) (hlt : ∀ q ∈ y.2, q.block < w.heap.size) : ∃ (x : TimeV), cs = x.cells ∧ x.good := by
  obtain ⟨n, hl, hf⟩ := open_fields Try.underlying26 h hlt
  have hl' : cs.length = 2 := hl.trans (by kernel_rfl)
  have c_u32 : Try.prog.cellsOf 23 = 1 := by kernel_rfl
  obtain ⟨y0, h0, t0⟩ := hf 0 _ rfl
  replace h0 : Tr enc Try.prog w n 23 ((cs.drop 0).take (Try.prog.cellsOf 23)) y0 := h0
  rw [c_u32] at h0
  obtain ⟨v0, e0, _, w0⟩ := DataW.trod_int Try.underlying23 h0
  obtain ⟨y1, h1, t1⟩ := hf 1 _ rfl
  replace h1 : Tr enc Try.prog w n 23 ((cs.drop 1).take (Try.prog.cellsOf 23)) y1 := h1
  rw [c_u32] at h1
  obtain ⟨v1, e1, _, w1⟩ := DataW.trod_int Try.underlying23 h1
  have hcs : cs = ([.int .u32 v0]) ++ ([.int .u32 v1]) := by
    have hend : cs.drop 2 = [] := List.drop_eq_nil_of_le (by omega)
    have s0 : cs = cs.drop 0 := rfl
    rw [s0, seg e0, seg e1]
    simp only [Nat.zero_add, Nat.reduceAdd, hend, List.append_nil, List.append_assoc]
  exact ⟨⟨v0, v1⟩, by rw [hcs]; simp only [TimeV.cells, List.cons_append, List.nil_append, List.append_assoc, List.append_nil], ⟨wf_u32 w0, wf_u32 w1⟩⟩

set_option maxRecDepth 100000 in
set_option maxHeartbeats 1000000 in
theorem open_SattrV {m : Nat} {cs : List Value} {y : DataW H × List MemPlace} (h : Tr enc Try.prog w m 28 cs y) (hlt : ∀ q ∈ y.2, q.block < w.heap.size) : ∃ (x : SattrV), cs = x.cells ∧ x.good := by
  obtain ⟨n, hl, hf⟩ := open_fields Try.underlying28 h hlt
  have hl' : cs.length = 14 := hl.trans (by kernel_rfl)
  have c_TimeV : Try.prog.cellsOf 26 = 2 := by kernel_rfl
  have c_bool : Try.prog.cellsOf 4 = 1 := by kernel_rfl
  have c_int : Try.prog.cellsOf 3 = 1 := by kernel_rfl
  have c_u32 : Try.prog.cellsOf 23 = 1 := by kernel_rfl
  have c_u64 : Try.prog.cellsOf 24 = 1 := by kernel_rfl
  obtain ⟨y0, h0, t0⟩ := hf 0 _ rfl
  replace h0 : Tr enc Try.prog w n 4 ((cs.drop 0).take (Try.prog.cellsOf 4)) y0 := h0
  rw [c_bool] at h0
  obtain ⟨v0, e0, _⟩ := DataW.trod_bool Try.underlying4 h0
  obtain ⟨y1, h1, t1⟩ := hf 1 _ rfl
  replace h1 : Tr enc Try.prog w n 4 ((cs.drop 1).take (Try.prog.cellsOf 4)) y1 := h1
  rw [c_bool] at h1
  obtain ⟨v1, e1, _⟩ := DataW.trod_bool Try.underlying4 h1
  obtain ⟨y2, h2, t2⟩ := hf 2 _ rfl
  replace h2 : Tr enc Try.prog w n 4 ((cs.drop 2).take (Try.prog.cellsOf 4)) y2 := h2
  rw [c_bool] at h2
  obtain ⟨v2, e2, _⟩ := DataW.trod_bool Try.underlying4 h2
  obtain ⟨y3, h3, t3⟩ := hf 3 _ rfl
  replace h3 : Tr enc Try.prog w n 4 ((cs.drop 3).take (Try.prog.cellsOf 4)) y3 := h3
  rw [c_bool] at h3
  obtain ⟨v3, e3, _⟩ := DataW.trod_bool Try.underlying4 h3
  obtain ⟨y4, h4, t4⟩ := hf 4 _ rfl
  replace h4 : Tr enc Try.prog w n 3 ((cs.drop 4).take (Try.prog.cellsOf 3)) y4 := h4
  rw [c_int] at h4
  obtain ⟨v4, e4, _, w4⟩ := DataW.trod_int Try.underlying3 h4
  obtain ⟨y5, h5, t5⟩ := hf 5 _ rfl
  replace h5 : Tr enc Try.prog w n 23 ((cs.drop 5).take (Try.prog.cellsOf 23)) y5 := h5
  rw [c_u32] at h5
  obtain ⟨v5, e5, _, w5⟩ := DataW.trod_int Try.underlying23 h5
  obtain ⟨y6, h6, t6⟩ := hf 6 _ rfl
  replace h6 : Tr enc Try.prog w n 23 ((cs.drop 6).take (Try.prog.cellsOf 23)) y6 := h6
  rw [c_u32] at h6
  obtain ⟨v6, e6, _, w6⟩ := DataW.trod_int Try.underlying23 h6
  obtain ⟨y7, h7, t7⟩ := hf 7 _ rfl
  replace h7 : Tr enc Try.prog w n 24 ((cs.drop 7).take (Try.prog.cellsOf 24)) y7 := h7
  rw [c_u64] at h7
  obtain ⟨v7, e7, _, w7⟩ := DataW.trod_int Try.underlying24 h7
  obtain ⟨y8, h8, t8⟩ := hf 8 _ rfl
  replace h8 : Tr enc Try.prog w n 3 ((cs.drop 8).take (Try.prog.cellsOf 3)) y8 := h8
  rw [c_int] at h8
  obtain ⟨v8, e8, _, w8⟩ := DataW.trod_int Try.underlying3 h8
  obtain ⟨y9, h9, t9⟩ := hf 9 _ rfl
  replace h9 : Tr enc Try.prog w n 3 ((cs.drop 9).take (Try.prog.cellsOf 3)) y9 := h9
  rw [c_int] at h9
  obtain ⟨v9, e9, _, w9⟩ := DataW.trod_int Try.underlying3 h9
  obtain ⟨y10, h10, t10⟩ := hf 10 _ rfl
  replace h10 : Tr enc Try.prog w n 26 ((cs.drop 10).take (Try.prog.cellsOf 26)) y10 := h10
  rw [c_TimeV] at h10
  obtain ⟨v10, e10, g10⟩ := open_TimeV h10 t10
  obtain ⟨y11, h11, t11⟩ := hf 11 _ rfl
  replace h11 : Tr enc Try.prog w n 26 ((cs.drop 12).take (Try.prog.cellsOf 26)) y11 := h11
  rw [c_TimeV] at h11
  obtain ⟨v11, e11, g11⟩ := open_TimeV h11 t11
  have hcs : cs = ([.bool v0]) ++ ([.bool v1]) ++ ([.bool v2]) ++ ([.bool v3]) ++ ([.int .i64 v4]) ++ ([.int .u32 v5]) ++ ([.int .u32 v6]) ++ ([.int .u64 v7]) ++ ([.int .i64 v8]) ++ ([.int .i64 v9]) ++ (v10.cells) ++ (v11.cells) := by
    have hend : cs.drop 14 = [] := List.drop_eq_nil_of_le (by omega)
    have s0 : cs = cs.drop 0 := rfl
    rw [s0, seg e0, seg e1, seg e2, seg e3, seg e4, seg e5, seg e6, seg e7, seg e8, seg e9, seg e10, seg e11]
    simp only [Nat.zero_add, Nat.reduceAdd, hend, List.append_nil, List.append_assoc]
  exact ⟨⟨v0, v1, v2, v3, v4, v5, v6, v7, v8, v9, v10, v11⟩, by rw [hcs]; simp only [SattrV.cells, List.cons_append, List.nil_append, List.append_assoc, List.append_nil], ⟨wf_i64 w4, wf_u32 w5, wf_u32 w6, wf_u64 w7, wf_i64 w8, wf_i64 w9, g10, g11⟩⟩

set_option maxRecDepth 100000 in
set_option maxHeartbeats 1000000 in
theorem open_AttrV {m : Nat} {cs : List Value} {y : DataW H × List MemPlace} (h : Tr enc Try.prog w m 35 cs y) (hlt : ∀ q ∈ y.2, q.block < w.heap.size) : ∃ (x : AttrV), cs = x.cells ∧ x.good := by
  obtain ⟨n, hl, hf⟩ := open_fields Try.underlying35 h hlt
  have hl' : cs.length = 14 := hl.trans (by kernel_rfl)
  have c_TimeV : Try.prog.cellsOf 26 = 2 := by kernel_rfl
  have c_int : Try.prog.cellsOf 3 = 1 := by kernel_rfl
  have c_u32 : Try.prog.cellsOf 23 = 1 := by kernel_rfl
  have c_u64 : Try.prog.cellsOf 24 = 1 := by kernel_rfl
  obtain ⟨y0, h0, t0⟩ := hf 0 _ rfl
  replace h0 : Tr enc Try.prog w n 3 ((cs.drop 0).take (Try.prog.cellsOf 3)) y0 := h0
  rw [c_int] at h0
  obtain ⟨v0, e0, _, w0⟩ := DataW.trod_int Try.underlying3 h0
  obtain ⟨y1, h1, t1⟩ := hf 1 _ rfl
  replace h1 : Tr enc Try.prog w n 3 ((cs.drop 1).take (Try.prog.cellsOf 3)) y1 := h1
  rw [c_int] at h1
  obtain ⟨v1, e1, _, w1⟩ := DataW.trod_int Try.underlying3 h1
  obtain ⟨y2, h2, t2⟩ := hf 2 _ rfl
  replace h2 : Tr enc Try.prog w n 3 ((cs.drop 2).take (Try.prog.cellsOf 3)) y2 := h2
  rw [c_int] at h2
  obtain ⟨v2, e2, _, w2⟩ := DataW.trod_int Try.underlying3 h2
  obtain ⟨y3, h3, t3⟩ := hf 3 _ rfl
  replace h3 : Tr enc Try.prog w n 23 ((cs.drop 3).take (Try.prog.cellsOf 23)) y3 := h3
  rw [c_u32] at h3
  obtain ⟨v3, e3, _, w3⟩ := DataW.trod_int Try.underlying23 h3
  obtain ⟨y4, h4, t4⟩ := hf 4 _ rfl
  replace h4 : Tr enc Try.prog w n 23 ((cs.drop 4).take (Try.prog.cellsOf 23)) y4 := h4
  rw [c_u32] at h4
  obtain ⟨v4, e4, _, w4⟩ := DataW.trod_int Try.underlying23 h4
  obtain ⟨y5, h5, t5⟩ := hf 5 _ rfl
  replace h5 : Tr enc Try.prog w n 24 ((cs.drop 5).take (Try.prog.cellsOf 24)) y5 := h5
  rw [c_u64] at h5
  obtain ⟨v5, e5, _, w5⟩ := DataW.trod_int Try.underlying24 h5
  obtain ⟨y6, h6, t6⟩ := hf 6 _ rfl
  replace h6 : Tr enc Try.prog w n 24 ((cs.drop 6).take (Try.prog.cellsOf 24)) y6 := h6
  rw [c_u64] at h6
  obtain ⟨v6, e6, _, w6⟩ := DataW.trod_int Try.underlying24 h6
  obtain ⟨y7, h7, t7⟩ := hf 7 _ rfl
  replace h7 : Tr enc Try.prog w n 24 ((cs.drop 7).take (Try.prog.cellsOf 24)) y7 := h7
  rw [c_u64] at h7
  obtain ⟨v7, e7, _, w7⟩ := DataW.trod_int Try.underlying24 h7
  obtain ⟨y8, h8, t8⟩ := hf 8 _ rfl
  replace h8 : Tr enc Try.prog w n 26 ((cs.drop 8).take (Try.prog.cellsOf 26)) y8 := h8
  rw [c_TimeV] at h8
  obtain ⟨v8, e8, g8⟩ := open_TimeV h8 t8
  obtain ⟨y9, h9, t9⟩ := hf 9 _ rfl
  replace h9 : Tr enc Try.prog w n 26 ((cs.drop 10).take (Try.prog.cellsOf 26)) y9 := h9
  rw [c_TimeV] at h9
  obtain ⟨v9, e9, g9⟩ := open_TimeV h9 t9
  obtain ⟨y10, h10, t10⟩ := hf 10 _ rfl
  replace h10 : Tr enc Try.prog w n 26 ((cs.drop 12).take (Try.prog.cellsOf 26)) y10 := h10
  rw [c_TimeV] at h10
  obtain ⟨v10, e10, g10⟩ := open_TimeV h10 t10
  have hcs : cs = ([.int .i64 v0]) ++ ([.int .i64 v1]) ++ ([.int .i64 v2]) ++ ([.int .u32 v3]) ++ ([.int .u32 v4]) ++ ([.int .u64 v5]) ++ ([.int .u64 v6]) ++ ([.int .u64 v7]) ++ (v8.cells) ++ (v9.cells) ++ (v10.cells) := by
    have hend : cs.drop 14 = [] := List.drop_eq_nil_of_le (by omega)
    have s0 : cs = cs.drop 0 := rfl
    rw [s0, seg e0, seg e1, seg e2, seg e3, seg e4, seg e5, seg e6, seg e7, seg e8, seg e9, seg e10]
    simp only [Nat.zero_add, Nat.reduceAdd, hend, List.append_nil, List.append_assoc]
  exact ⟨⟨v0, v1, v2, v3, v4, v5, v6, v7, v8, v9, v10⟩, by rw [hcs]; simp only [AttrV.cells, List.cons_append, List.nil_append, List.append_assoc, List.append_nil], ⟨wf_i64 w0, wf_i64 w1, wf_i64 w2, wf_u32 w3, wf_u32 w4, wf_u64 w5, wf_u64 w6, wf_u64 w7, g8, g9, g10⟩⟩

set_option maxRecDepth 100000 in
set_option maxHeartbeats 1000000 in
theorem open_PostV {m : Nat} {cs : List Value} {y : DataW H × List MemPlace} (h : Tr enc Try.prog w m 37 cs y) (hlt : ∀ q ∈ y.2, q.block < w.heap.size) : ∃ (x : PostV), cs = x.cells ∧ x.good := by
  obtain ⟨n, hl, hf⟩ := open_fields Try.underlying37 h hlt
  have hl' : cs.length = 15 := hl.trans (by kernel_rfl)
  have c_AttrV : Try.prog.cellsOf 35 = 14 := by kernel_rfl
  have c_bool : Try.prog.cellsOf 4 = 1 := by kernel_rfl
  obtain ⟨y0, h0, t0⟩ := hf 0 _ rfl
  replace h0 : Tr enc Try.prog w n 4 ((cs.drop 0).take (Try.prog.cellsOf 4)) y0 := h0
  rw [c_bool] at h0
  obtain ⟨v0, e0, _⟩ := DataW.trod_bool Try.underlying4 h0
  obtain ⟨y1, h1, t1⟩ := hf 1 _ rfl
  replace h1 : Tr enc Try.prog w n 35 ((cs.drop 1).take (Try.prog.cellsOf 35)) y1 := h1
  rw [c_AttrV] at h1
  obtain ⟨v1, e1, g1⟩ := open_AttrV h1 t1
  have hcs : cs = ([.bool v0]) ++ (v1.cells) := by
    have hend : cs.drop 15 = [] := List.drop_eq_nil_of_le (by omega)
    have s0 : cs = cs.drop 0 := rfl
    rw [s0, seg e0, seg e1]
    simp only [Nat.zero_add, Nat.reduceAdd, hend, List.append_nil, List.append_assoc]
  exact ⟨⟨v0, v1⟩, by rw [hcs]; simp only [PostV.cells, List.cons_append, List.nil_append, List.append_assoc, List.append_nil], g1⟩

set_option maxRecDepth 100000 in
set_option maxHeartbeats 1000000 in
theorem open_WccV {m : Nat} {cs : List Value} {y : DataW H × List MemPlace} (h : Tr enc Try.prog w m 39 cs y) (hlt : ∀ q ∈ y.2, q.block < w.heap.size) : ∃ (x : WccV), cs = x.cells ∧ x.good := by
  obtain ⟨n, hl, hf⟩ := open_fields Try.underlying39 h hlt
  have hl' : cs.length = 6 := hl.trans (by kernel_rfl)
  have c_TimeV : Try.prog.cellsOf 26 = 2 := by kernel_rfl
  have c_bool : Try.prog.cellsOf 4 = 1 := by kernel_rfl
  have c_u64 : Try.prog.cellsOf 24 = 1 := by kernel_rfl
  obtain ⟨y0, h0, t0⟩ := hf 0 _ rfl
  replace h0 : Tr enc Try.prog w n 4 ((cs.drop 0).take (Try.prog.cellsOf 4)) y0 := h0
  rw [c_bool] at h0
  obtain ⟨v0, e0, _⟩ := DataW.trod_bool Try.underlying4 h0
  obtain ⟨y1, h1, t1⟩ := hf 1 _ rfl
  replace h1 : Tr enc Try.prog w n 24 ((cs.drop 1).take (Try.prog.cellsOf 24)) y1 := h1
  rw [c_u64] at h1
  obtain ⟨v1, e1, _, w1⟩ := DataW.trod_int Try.underlying24 h1
  obtain ⟨y2, h2, t2⟩ := hf 2 _ rfl
  replace h2 : Tr enc Try.prog w n 26 ((cs.drop 2).take (Try.prog.cellsOf 26)) y2 := h2
  rw [c_TimeV] at h2
  obtain ⟨v2, e2, g2⟩ := open_TimeV h2 t2
  obtain ⟨y3, h3, t3⟩ := hf 3 _ rfl
  replace h3 : Tr enc Try.prog w n 26 ((cs.drop 4).take (Try.prog.cellsOf 26)) y3 := h3
  rw [c_TimeV] at h3
  obtain ⟨v3, e3, g3⟩ := open_TimeV h3 t3
  have hcs : cs = ([.bool v0]) ++ ([.int .u64 v1]) ++ (v2.cells) ++ (v3.cells) := by
    have hend : cs.drop 6 = [] := List.drop_eq_nil_of_le (by omega)
    have s0 : cs = cs.drop 0 := rfl
    rw [s0, seg e0, seg e1, seg e2, seg e3]
    simp only [Nat.zero_add, Nat.reduceAdd, hend, List.append_nil, List.append_assoc]
  exact ⟨⟨v0, v1, v2, v3⟩, by rw [hcs]; simp only [WccV.cells, List.cons_append, List.nil_append, List.append_assoc, List.append_nil], ⟨wf_u64 w1, g2, g3⟩⟩

set_option maxRecDepth 100000 in
set_option maxHeartbeats 1000000 in
theorem open_EntryV {m : Nat} {cs : List Value} {y : DataW H × List MemPlace} (h : Tr enc Try.prog w m 105 cs y) (hlt : ∀ q ∈ y.2, q.block < w.heap.size) : ∃ (x : EntryV), cs = x.cells ∧ x.good := by
  obtain ⟨n, hl, hf⟩ := open_fields Try.underlying105 h hlt
  have hl' : cs.length = 20 := hl.trans (by kernel_rfl)
  have c_PostV : Try.prog.cellsOf 37 = 15 := by kernel_rfl
  have c_bool : Try.prog.cellsOf 4 = 1 := by kernel_rfl
  have c_str : Try.prog.cellsOf 9 = 1 := by kernel_rfl
  have c_u64 : Try.prog.cellsOf 24 = 1 := by kernel_rfl
  obtain ⟨y0, h0, t0⟩ := hf 0 _ rfl
  replace h0 : Tr enc Try.prog w n 24 ((cs.drop 0).take (Try.prog.cellsOf 24)) y0 := h0
  rw [c_u64] at h0
  obtain ⟨v0, e0, _, w0⟩ := DataW.trod_int Try.underlying24 h0
  obtain ⟨y1, h1, t1⟩ := hf 1 _ rfl
  replace h1 : Tr enc Try.prog w n 9 ((cs.drop 1).take (Try.prog.cellsOf 9)) y1 := h1
  rw [c_str] at h1
  obtain ⟨v1, e1, _⟩ := DataW.trod_string Try.underlying9 h1
  rw [str_of v1] at e1
  obtain ⟨y2, h2, t2⟩ := hf 2 _ rfl
  replace h2 : Tr enc Try.prog w n 24 ((cs.drop 2).take (Try.prog.cellsOf 24)) y2 := h2
  rw [c_u64] at h2
  obtain ⟨v2, e2, _, w2⟩ := DataW.trod_int Try.underlying24 h2
  obtain ⟨y3, h3, t3⟩ := hf 3 _ rfl
  replace h3 : Tr enc Try.prog w n 37 ((cs.drop 3).take (Try.prog.cellsOf 37)) y3 := h3
  rw [c_PostV] at h3
  obtain ⟨v3, e3, g3⟩ := open_PostV h3 t3
  obtain ⟨y4, h4, t4⟩ := hf 4 _ rfl
  replace h4 : Tr enc Try.prog w n 4 ((cs.drop 18).take (Try.prog.cellsOf 4)) y4 := h4
  rw [c_bool] at h4
  obtain ⟨v4, e4, _⟩ := DataW.trod_bool Try.underlying4 h4
  obtain ⟨y5, h5, t5⟩ := hf 5 _ rfl
  replace h5 : Tr enc Try.prog w n 9 ((cs.drop 19).take (Try.prog.cellsOf 9)) y5 := h5
  rw [c_str] at h5
  obtain ⟨v5, e5, _⟩ := DataW.trod_string Try.underlying9 h5
  rw [str_of v5] at e5
  have hcs : cs = ([.int .u64 v0]) ++ ([.string (str v1.data.toList)]) ++ ([.int .u64 v2]) ++ (v3.cells) ++ ([.bool v4]) ++ ([.string (str v5.data.toList)]) := by
    have hend : cs.drop 20 = [] := List.drop_eq_nil_of_le (by omega)
    have s0 : cs = cs.drop 0 := rfl
    rw [s0, seg e0, seg e1, seg e2, seg e3, seg e4, seg e5]
    simp only [Nat.zero_add, Nat.reduceAdd, hend, List.append_nil, List.append_assoc]
  exact ⟨⟨v0, v1.data.toList, v2, v3, v4, v5.data.toList⟩, by rw [hcs]; simp only [EntryV.cells, List.cons_append, List.nil_append, List.append_assoc, List.append_nil], ⟨wf_u64 w0, wf_u64 w2, g3⟩⟩

set_option maxRecDepth 100000 in
set_option maxHeartbeats 1000000 in
theorem open_ArgsV {m : Nat} {cs : List Value} {y : DataW H × List MemPlace} (h : Tr enc Try.prog w m 30 cs y) (hlt : ∀ q ∈ y.2, q.block < w.heap.size) : ∃ (x : ArgsV) (ao : Option Addr) (cap : Nat), cs = x.cells (.slice ao x.data.length cap) ∧ SlB w ao cap x.data ∧ (∀ k, rb ao x.data.length k → k < w.heap.size) ∧ x.data.length ≤ 9223372036854775807 ∧ x.good := by
  obtain ⟨n, hl, hf⟩ := open_fields Try.underlying30 h hlt
  have hl' : cs.length = 36 := hl.trans (by kernel_rfl)
  have c_SattrV : Try.prog.cellsOf 28 = 14 := by kernel_rfl
  have c_TimeV : Try.prog.cellsOf 26 = 2 := by kernel_rfl
  have c_bool : Try.prog.cellsOf 4 = 1 := by kernel_rfl
  have c_bytes : Try.prog.cellsOf 22 = 1 := by kernel_rfl
  have c_int : Try.prog.cellsOf 3 = 1 := by kernel_rfl
  have c_str : Try.prog.cellsOf 9 = 1 := by kernel_rfl
  have c_u32 : Try.prog.cellsOf 23 = 1 := by kernel_rfl
  have c_u64 : Try.prog.cellsOf 24 = 1 := by kernel_rfl
  obtain ⟨y0, h0, t0⟩ := hf 0 _ rfl
  replace h0 : Tr enc Try.prog w n 9 ((cs.drop 0).take (Try.prog.cellsOf 9)) y0 := h0
  rw [c_str] at h0
  obtain ⟨v0, e0, _⟩ := DataW.trod_string Try.underlying9 h0
  rw [str_of v0] at e0
  obtain ⟨y1, h1, t1⟩ := hf 1 _ rfl
  replace h1 : Tr enc Try.prog w n 9 ((cs.drop 1).take (Try.prog.cellsOf 9)) y1 := h1
  rw [c_str] at h1
  obtain ⟨v1, e1, _⟩ := DataW.trod_string Try.underlying9 h1
  rw [str_of v1] at e1
  obtain ⟨y2, h2, t2⟩ := hf 2 _ rfl
  replace h2 : Tr enc Try.prog w n 9 ((cs.drop 2).take (Try.prog.cellsOf 9)) y2 := h2
  rw [c_str] at h2
  obtain ⟨v2, e2, _⟩ := DataW.trod_string Try.underlying9 h2
  rw [str_of v2] at e2
  obtain ⟨y3, h3, t3⟩ := hf 3 _ rfl
  replace h3 : Tr enc Try.prog w n 9 ((cs.drop 3).take (Try.prog.cellsOf 9)) y3 := h3
  rw [c_str] at h3
  obtain ⟨v3, e3, _⟩ := DataW.trod_string Try.underlying9 h3
  rw [str_of v3] at e3
  obtain ⟨y4, h4, t4⟩ := hf 4 _ rfl
  replace h4 : Tr enc Try.prog w n 9 ((cs.drop 4).take (Try.prog.cellsOf 9)) y4 := h4
  rw [c_str] at h4
  obtain ⟨v4, e4, _⟩ := DataW.trod_string Try.underlying9 h4
  rw [str_of v4] at e4
  obtain ⟨y5, h5, t5⟩ := hf 5 _ rfl
  replace h5 : Tr enc Try.prog w n 28 ((cs.drop 5).take (Try.prog.cellsOf 28)) y5 := h5
  rw [c_SattrV] at h5
  obtain ⟨v5, e5, g5⟩ := open_SattrV h5 t5
  obtain ⟨y6, h6, t6⟩ := hf 6 _ rfl
  replace h6 : Tr enc Try.prog w n 4 ((cs.drop 19).take (Try.prog.cellsOf 4)) y6 := h6
  rw [c_bool] at h6
  obtain ⟨v6, e6, _⟩ := DataW.trod_bool Try.underlying4 h6
  obtain ⟨y7, h7, t7⟩ := hf 7 _ rfl
  replace h7 : Tr enc Try.prog w n 26 ((cs.drop 20).take (Try.prog.cellsOf 26)) y7 := h7
  rw [c_TimeV] at h7
  obtain ⟨v7, e7, g7⟩ := open_TimeV h7 t7
  obtain ⟨y8, h8, t8⟩ := hf 8 _ rfl
  replace h8 : Tr enc Try.prog w n 23 ((cs.drop 22).take (Try.prog.cellsOf 23)) y8 := h8
  rw [c_u32] at h8
  obtain ⟨v8, e8, _, w8⟩ := DataW.trod_int Try.underlying23 h8
  obtain ⟨y9, h9, t9⟩ := hf 9 _ rfl
  replace h9 : Tr enc Try.prog w n 24 ((cs.drop 23).take (Try.prog.cellsOf 24)) y9 := h9
  rw [c_u64] at h9
  obtain ⟨v9, e9, _, w9⟩ := DataW.trod_int Try.underlying24 h9
  obtain ⟨y10, h10, t10⟩ := hf 10 _ rfl
  replace h10 : Tr enc Try.prog w n 23 ((cs.drop 24).take (Try.prog.cellsOf 23)) y10 := h10
  rw [c_u32] at h10
  obtain ⟨v10, e10, _, w10⟩ := DataW.trod_int Try.underlying23 h10
  obtain ⟨y11, h11, t11⟩ := hf 11 _ rfl
  replace h11 : Tr enc Try.prog w n 3 ((cs.drop 25).take (Try.prog.cellsOf 3)) y11 := h11
  rw [c_int] at h11
  obtain ⟨v11, e11, _, w11⟩ := DataW.trod_int Try.underlying3 h11
  obtain ⟨y12, h12, t12⟩ := hf 12 _ rfl
  replace h12 : Tr enc Try.prog w n 3 ((cs.drop 26).take (Try.prog.cellsOf 3)) y12 := h12
  rw [c_int] at h12
  obtain ⟨v12, e12, _, w12⟩ := DataW.trod_int Try.underlying3 h12
  obtain ⟨y13, h13, t13⟩ := hf 13 _ rfl
  replace h13 : Tr enc Try.prog w n 3 ((cs.drop 27).take (Try.prog.cellsOf 3)) y13 := h13
  rw [c_int] at h13
  obtain ⟨v13, e13, _, w13⟩ := DataW.trod_int Try.underlying3 h13
  obtain ⟨y14, h14, t14⟩ := hf 14 _ rfl
  replace h14 : Tr enc Try.prog w n 22 ((cs.drop 28).take (Try.prog.cellsOf 22)) y14 := h14
  rw [c_bytes] at h14
  obtain ⟨ao, cap, v14, e14, sb, hb, lb⟩ := open_bytes Try.underlying22 Try.underlying5 (by kernel_rfl) h14 t14
  obtain ⟨y15, h15, t15⟩ := hf 15 _ rfl
  replace h15 : Tr enc Try.prog w n 24 ((cs.drop 29).take (Try.prog.cellsOf 24)) y15 := h15
  rw [c_u64] at h15
  obtain ⟨v15, e15, _, w15⟩ := DataW.trod_int Try.underlying24 h15
  obtain ⟨y16, h16, t16⟩ := hf 16 _ rfl
  replace h16 : Tr enc Try.prog w n 24 ((cs.drop 30).take (Try.prog.cellsOf 24)) y16 := h16
  rw [c_u64] at h16
  obtain ⟨v16, e16, _, w16⟩ := DataW.trod_int Try.underlying24 h16
  obtain ⟨y17, h17, t17⟩ := hf 17 _ rfl
  replace h17 : Tr enc Try.prog w n 24 ((cs.drop 31).take (Try.prog.cellsOf 24)) y17 := h17
  rw [c_u64] at h17
  obtain ⟨v17, e17, _, w17⟩ := DataW.trod_int Try.underlying24 h17
  obtain ⟨y18, h18, t18⟩ := hf 18 _ rfl
  replace h18 : Tr enc Try.prog w n 23 ((cs.drop 32).take (Try.prog.cellsOf 23)) y18 := h18
  rw [c_u32] at h18
  obtain ⟨v18, e18, _, w18⟩ := DataW.trod_int Try.underlying23 h18
  obtain ⟨y19, h19, t19⟩ := hf 19 _ rfl
  replace h19 : Tr enc Try.prog w n 23 ((cs.drop 33).take (Try.prog.cellsOf 23)) y19 := h19
  rw [c_u32] at h19
  obtain ⟨v19, e19, _, w19⟩ := DataW.trod_int Try.underlying23 h19
  obtain ⟨y20, h20, t20⟩ := hf 20 _ rfl
  replace h20 : Tr enc Try.prog w n 23 ((cs.drop 34).take (Try.prog.cellsOf 23)) y20 := h20
  rw [c_u32] at h20
  obtain ⟨v20, e20, _, w20⟩ := DataW.trod_int Try.underlying23 h20
  obtain ⟨y21, h21, t21⟩ := hf 21 _ rfl
  replace h21 : Tr enc Try.prog w n 23 ((cs.drop 35).take (Try.prog.cellsOf 23)) y21 := h21
  rw [c_u32] at h21
  obtain ⟨v21, e21, _, w21⟩ := DataW.trod_int Try.underlying23 h21
  have hcs : cs = ([.string (str v0.data.toList)]) ++ ([.string (str v1.data.toList)]) ++ ([.string (str v2.data.toList)]) ++ ([.string (str v3.data.toList)]) ++ ([.string (str v4.data.toList)]) ++ (v5.cells) ++ ([.bool v6]) ++ (v7.cells) ++ ([.int .u32 v8]) ++ ([.int .u64 v9]) ++ ([.int .u32 v10]) ++ ([.int .i64 v11]) ++ ([.int .i64 v12]) ++ ([.int .i64 v13]) ++ ([.slice ao v14.length cap]) ++ ([.int .u64 v15]) ++ ([.int .u64 v16]) ++ ([.int .u64 v17]) ++ ([.int .u32 v18]) ++ ([.int .u32 v19]) ++ ([.int .u32 v20]) ++ ([.int .u32 v21]) := by
    have hend : cs.drop 36 = [] := List.drop_eq_nil_of_le (by omega)
    have s0 : cs = cs.drop 0 := rfl
    rw [s0, seg e0, seg e1, seg e2, seg e3, seg e4, seg e5, seg e6, seg e7, seg e8, seg e9, seg e10, seg e11, seg e12, seg e13, seg e14, seg e15, seg e16, seg e17, seg e18, seg e19, seg e20, seg e21]
    simp only [Nat.zero_add, Nat.reduceAdd, hend, List.append_nil, List.append_assoc]
  exact ⟨⟨v0.data.toList, v1.data.toList, v2.data.toList, v3.data.toList, v4.data.toList, v5, v6, v7, v8, v9, v10, v11, v12, v13, v14, v15, v16, v17, v18, v19, v20, v21⟩, ao, cap, by rw [hcs]; simp only [ArgsV.cells, List.cons_append, List.nil_append, List.append_assoc, List.append_nil], sb, hb, lb, ⟨g5, g7, wf_u32 w8, wf_u64 w9, wf_u32 w10, wf_i64 w11, wf_i64 w12, wf_i64 w13, wf_u64 w15, wf_u64 w16, wf_u64 w17, wf_u32 w18, wf_u32 w19, wf_u32 w20, wf_u32 w21⟩⟩

set_option maxRecDepth 100000 in
set_option maxHeartbeats 1000000 in
theorem open_ResV {m : Nat} {cs : List Value} {y : DataW H × List MemPlace} (h : Tr enc Try.prog w m 42 cs y) (hlt : ∀ q ∈ y.2, q.block < w.heap.size) : ∃ (x : ResV) (ao : Option Addr) (cap : Nat) (eo : Option Addr) (ec : Nat), cs = x.cells (.slice ao x.data.length cap) (.slice eo x.entries.length ec) ∧ SlB w ao cap x.data ∧ (∀ k, rb ao x.data.length k → k < w.heap.size) ∧ SlE w eo ec x.entries ∧ (∀ k, rb eo x.entries.length k → k < w.heap.size) ∧ x.data.length ≤ 9223372036854775807 ∧ x.entries.length ≤ 9223372036854775807 ∧ x.good := by
  obtain ⟨n, hl, hf⟩ := open_fields Try.underlying42 h hlt
  have hl' : cs.length = 88 := hl.trans (by kernel_rfl)
  have c_PostV : Try.prog.cellsOf 37 = 15 := by kernel_rfl
  have c_WccV : Try.prog.cellsOf 39 = 6 := by kernel_rfl
  have c_bool : Try.prog.cellsOf 4 = 1 := by kernel_rfl
  have c_bytes : Try.prog.cellsOf 22 = 1 := by kernel_rfl
  have c_entries : Try.prog.cellsOf 40 = 1 := by kernel_rfl
  have c_int : Try.prog.cellsOf 3 = 1 := by kernel_rfl
  have c_stat : Try.prog.cellsOf 33 = 1 := by kernel_rfl
  have c_str : Try.prog.cellsOf 9 = 1 := by kernel_rfl
  have c_u32 : Try.prog.cellsOf 23 = 1 := by kernel_rfl
  have c_u64 : Try.prog.cellsOf 24 = 1 := by kernel_rfl
  obtain ⟨y0, h0, t0⟩ := hf 0 _ rfl
  replace h0 : Tr enc Try.prog w n 33 ((cs.drop 0).take (Try.prog.cellsOf 33)) y0 := h0
  rw [c_stat] at h0
  obtain ⟨v0, e0, _, w0⟩ := DataW.trod_int Try.underlying33 h0
  obtain ⟨y1, h1, t1⟩ := hf 1 _ rfl
  replace h1 : Tr enc Try.prog w n 37 ((cs.drop 1).take (Try.prog.cellsOf 37)) y1 := h1
  rw [c_PostV] at h1
  obtain ⟨v1, e1, g1⟩ := open_PostV h1 t1
  obtain ⟨y2, h2, t2⟩ := hf 2 _ rfl
  replace h2 : Tr enc Try.prog w n 37 ((cs.drop 16).take (Try.prog.cellsOf 37)) y2 := h2
  rw [c_PostV] at h2
  obtain ⟨v2, e2, g2⟩ := open_PostV h2 t2
  obtain ⟨y3, h3, t3⟩ := hf 3 _ rfl
  replace h3 : Tr enc Try.prog w n 39 ((cs.drop 31).take (Try.prog.cellsOf 39)) y3 := h3
  rw [c_WccV] at h3
  obtain ⟨v3, e3, g3⟩ := open_WccV h3 t3
  obtain ⟨y4, h4, t4⟩ := hf 4 _ rfl
  replace h4 : Tr enc Try.prog w n 39 ((cs.drop 37).take (Try.prog.cellsOf 39)) y4 := h4
  rw [c_WccV] at h4
  obtain ⟨v4, e4, g4⟩ := open_WccV h4 t4
  obtain ⟨y5, h5, t5⟩ := hf 5 _ rfl
  replace h5 : Tr enc Try.prog w n 37 ((cs.drop 43).take (Try.prog.cellsOf 37)) y5 := h5
  rw [c_PostV] at h5
  obtain ⟨v5, e5, g5⟩ := open_PostV h5 t5
  obtain ⟨y6, h6, t6⟩ := hf 6 _ rfl
  replace h6 : Tr enc Try.prog w n 37 ((cs.drop 58).take (Try.prog.cellsOf 37)) y6 := h6
  rw [c_PostV] at h6
  obtain ⟨v6, e6, g6⟩ := open_PostV h6 t6
  obtain ⟨y7, h7, t7⟩ := hf 7 _ rfl
  replace h7 : Tr enc Try.prog w n 4 ((cs.drop 73).take (Try.prog.cellsOf 4)) y7 := h7
  rw [c_bool] at h7
  obtain ⟨v7, e7, _⟩ := DataW.trod_bool Try.underlying4 h7
  obtain ⟨y8, h8, t8⟩ := hf 8 _ rfl
  replace h8 : Tr enc Try.prog w n 9 ((cs.drop 74).take (Try.prog.cellsOf 9)) y8 := h8
  rw [c_str] at h8
  obtain ⟨v8, e8, _⟩ := DataW.trod_string Try.underlying9 h8
  rw [str_of v8] at e8
  obtain ⟨y9, h9, t9⟩ := hf 9 _ rfl
  replace h9 : Tr enc Try.prog w n 23 ((cs.drop 75).take (Try.prog.cellsOf 23)) y9 := h9
  rw [c_u32] at h9
  obtain ⟨v9, e9, _, w9⟩ := DataW.trod_int Try.underlying23 h9
  obtain ⟨y10, h10, t10⟩ := hf 10 _ rfl
  replace h10 : Tr enc Try.prog w n 9 ((cs.drop 76).take (Try.prog.cellsOf 9)) y10 := h10
  rw [c_str] at h10
  obtain ⟨v10, e10, _⟩ := DataW.trod_string Try.underlying9 h10
  rw [str_of v10] at e10
  obtain ⟨y11, h11, t11⟩ := hf 11 _ rfl
  replace h11 : Tr enc Try.prog w n 23 ((cs.drop 77).take (Try.prog.cellsOf 23)) y11 := h11
  rw [c_u32] at h11
  obtain ⟨v11, e11, _, w11⟩ := DataW.trod_int Try.underlying23 h11
  obtain ⟨y12, h12, t12⟩ := hf 12 _ rfl
  replace h12 : Tr enc Try.prog w n 4 ((cs.drop 78).take (Try.prog.cellsOf 4)) y12 := h12
  rw [c_bool] at h12
  obtain ⟨v12, e12, _⟩ := DataW.trod_bool Try.underlying4 h12
  obtain ⟨y13, h13, t13⟩ := hf 13 _ rfl
  replace h13 : Tr enc Try.prog w n 22 ((cs.drop 79).take (Try.prog.cellsOf 22)) y13 := h13
  rw [c_bytes] at h13
  obtain ⟨ao, cap, v13, e13, sb, hb, lb⟩ := open_bytes Try.underlying22 Try.underlying5 (by kernel_rfl) h13 t13
  obtain ⟨y14, h14, t14⟩ := hf 14 _ rfl
  replace h14 : Tr enc Try.prog w n 3 ((cs.drop 80).take (Try.prog.cellsOf 3)) y14 := h14
  rw [c_int] at h14
  obtain ⟨v14, e14, _, w14⟩ := DataW.trod_int Try.underlying3 h14
  obtain ⟨y15, h15, t15⟩ := hf 15 _ rfl
  replace h15 : Tr enc Try.prog w n 24 ((cs.drop 81).take (Try.prog.cellsOf 24)) y15 := h15
  rw [c_u64] at h15
  obtain ⟨v15, e15, _, w15⟩ := DataW.trod_int Try.underlying24 h15
  obtain ⟨y16, h16, t16⟩ := hf 16 _ rfl
  replace h16 : Tr enc Try.prog w n 24 ((cs.drop 82).take (Try.prog.cellsOf 24)) y16 := h16
  rw [c_u64] at h16
  obtain ⟨v16, e16, _, w16⟩ := DataW.trod_int Try.underlying24 h16
  obtain ⟨y17, h17, t17⟩ := hf 17 _ rfl
  replace h17 : Tr enc Try.prog w n 40 ((cs.drop 83).take (Try.prog.cellsOf 40)) y17 := h17
  rw [c_entries] at h17
  obtain ⟨eo, ec, v17, e17, se, he, ge, le⟩ := open_list EntryV.cells EntryV.good Try.underlying40 (sz := 20) (by kernel_rfl) (by decide) (fun m cs' y hy hlt' => by
    obtain ⟨x, h1, h2⟩ := open_EntryV hy hlt'
    exact ⟨x, h1, h2⟩) h17 t17
  obtain ⟨y18, h18, t18⟩ := hf 18 _ rfl
  replace h18 : Tr enc Try.prog w n 24 ((cs.drop 84).take (Try.prog.cellsOf 24)) y18 := h18
  rw [c_u64] at h18
  obtain ⟨v18, e18, _, w18⟩ := DataW.trod_int Try.underlying24 h18
  obtain ⟨y19, h19, t19⟩ := hf 19 _ rfl
  replace h19 : Tr enc Try.prog w n 24 ((cs.drop 85).take (Try.prog.cellsOf 24)) y19 := h19
  rw [c_u64] at h19
  obtain ⟨v19, e19, _, w19⟩ := DataW.trod_int Try.underlying24 h19
  obtain ⟨y20, h20, t20⟩ := hf 20 _ rfl
  replace h20 : Tr enc Try.prog w n 24 ((cs.drop 86).take (Try.prog.cellsOf 24)) y20 := h20
  rw [c_u64] at h20
  obtain ⟨v20, e20, _, w20⟩ := DataW.trod_int Try.underlying24 h20
  obtain ⟨y21, h21, t21⟩ := hf 21 _ rfl
  replace h21 : Tr enc Try.prog w n 24 ((cs.drop 87).take (Try.prog.cellsOf 24)) y21 := h21
  rw [c_u64] at h21
  obtain ⟨v21, e21, _, w21⟩ := DataW.trod_int Try.underlying24 h21
  have hcs : cs = ([.int .i64 v0]) ++ (v1.cells) ++ (v2.cells) ++ (v3.cells) ++ (v4.cells) ++ (v5.cells) ++ (v6.cells) ++ ([.bool v7]) ++ ([.string (str v8.data.toList)]) ++ ([.int .u32 v9]) ++ ([.string (str v10.data.toList)]) ++ ([.int .u32 v11]) ++ ([.bool v12]) ++ ([.slice ao v13.length cap]) ++ ([.int .i64 v14]) ++ ([.int .u64 v15]) ++ ([.int .u64 v16]) ++ ([.slice eo v17.length ec]) ++ ([.int .u64 v18]) ++ ([.int .u64 v19]) ++ ([.int .u64 v20]) ++ ([.int .u64 v21]) := by
    have hend : cs.drop 88 = [] := List.drop_eq_nil_of_le (by omega)
    have s0 : cs = cs.drop 0 := rfl
    rw [s0, seg e0, seg e1, seg e2, seg e3, seg e4, seg e5, seg e6, seg e7, seg e8, seg e9, seg e10, seg e11, seg e12, seg e13, seg e14, seg e15, seg e16, seg e17, seg e18, seg e19, seg e20, seg e21]
    simp only [Nat.zero_add, Nat.reduceAdd, hend, List.append_nil, List.append_assoc]
  exact ⟨⟨v0, v1, v2, v3, v4, v5, v6, v7, v8.data.toList, v9, v10.data.toList, v11, v12, v13, v14, v15, v16, v17, v18, v19, v20, v21⟩, ao, cap, eo, ec, by rw [hcs]; simp only [ResV.cells, List.cons_append, List.nil_append, List.append_assoc, List.append_nil], sb, hb, se, he, lb, le, ⟨wf_i64 w0, g1, g2, g3, g4, g5, g6, wf_u32 w9, wf_u32 w11, wf_i64 w14, wf_u64 w15, wf_u64 w16, ge, wf_u64 w18, wf_u64 w19, wf_u64 w20, wf_u64 w21⟩⟩

end
end Go.Proofs.Ytanknjpcgceccaa
