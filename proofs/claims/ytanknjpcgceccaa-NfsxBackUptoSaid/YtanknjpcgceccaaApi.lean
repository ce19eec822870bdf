/- api's structs: their cells, their loads, their comparisons. (Printed by wip/tools/gen_api.py.) -/
import Derived.Test.YtanknjpcgceccaaBase
import Derived.Deep.MidRow
namespace Go.Proofs.Ytanknjpcgceccaa
open Go.RowKit

/-- Equal or not. -/
noncomputable def eqb {α : Type} (a b : α) : Bool := @decide (a = b) (Classical.propDecidable _)
theorem eqb_iff {α : Type} {a b : α} : eqb a b = true ↔ a = b := by simp [eqb]
theorem eqb_self {α : Type} (a : α) : eqb a a = true := eqb_iff.2 rfl
theorem eqb_ne {α : Type} {a b : α} (h : a ≠ b) : eqb a b = false := by rw [Bool.eq_false_iff]; exact fun e => h (eqb_iff.1 e)
theorem eqb_of {α : Type} {a b : α} {c : Bool} (h : c = true ↔ a = b) : eqb a b = c := by
  rw [Bool.eq_iff_iff, h, eqb_iff]
theorem eqb_int (a b : Int) : (a == b) = eqb a b := (eqb_of (by simp)).symm
theorem eqb_bool (a b : Bool) : (a == b) = eqb a b := (eqb_of (by simp)).symm
theorem eqb_str (a b : List UInt8) : ((str a).toList == (str b).toList) = eqb a b := (eqb_of (by simp [ByteArray.toList_eq, str])).symm
theorem eqb_swap {α : Type} (a b : α) : eqb a b = eqb b a := eqb_of (by rw [eqb_iff]; exact eq_comm)
theorem rangeAt_sub {w : World} {g o : Nat} {l : List Value} (h : w.rangeAt g 0 l) (n : Nat) (cs : List Value) (he : (l.drop o).take n = cs) : w.rangeAt g o cs := by
  subst he
  intro j v hj
  rw [List.getElem?_take] at hj
  split at hj
  · rw [List.getElem?_drop] at hj
    simpa using h _ _ hj
  · cases hj
theorem rangeAt_one {w : World} {g o : Nat} {v : Value} (h : w.rangeAt g o [v]) : w.cell? ⟨g, o, none⟩ = some v := by simpa using h 0 v rfl
theorem rangeAt_keep {w w' : World} {g o : Nat} {l : List Value} (h : w.rangeAt g o l) {F : Nat → Prop} (hm : Mods F w w') (hF : ¬ F g) : w'.rangeAt g o l := fun j v hj => hm.cell (h j v hj) hF
theorem rangeAt_new (w : World) (l : List Value) (t : TypeId) : (w.alloc (.cells l.toArray t)).rangeAt w.heap.size 0 l := fun j v hj => by
  have h : (w.alloc (.cells l.toArray t)).heap[w.heap.size]? = some (.cells l.toArray t (0, 0)) := heap_alloc_new w _
  rw [cell_of_row _ _ _ _ _ _ h]
  simpa using hj

structure TimeV where
  sec : Int
  nsec : Int
def TimeV.cells (x : TimeV) : List Value := [.int .u32 x.sec, .int .u32 x.nsec]
def TimeV.good (x : TimeV) : Prop := (0 ≤ x.sec ∧ x.sec < 4294967296) ∧ (0 ≤ x.nsec ∧ x.nsec < 4294967296)

structure SattrV where
  hasMode : Bool
  hasUid : Bool
  hasGid : Bool
  hasSize : Bool
  mode : Int
  uid : Int
  gid : Int
  size : Int
  atimeHow : Int
  mtimeHow : Int
  atime : TimeV
  mtime : TimeV
def SattrV.cells (x : SattrV) : List Value := [.bool x.hasMode, .bool x.hasUid, .bool x.hasGid, .bool x.hasSize, .int .i64 x.mode, .int .u32 x.uid, .int .u32 x.gid, .int .u64 x.size, .int .i64 x.atimeHow, .int .i64 x.mtimeHow] ++ x.atime.cells ++ x.mtime.cells
def SattrV.good (x : SattrV) : Prop := (-9223372036854775808 ≤ x.mode ∧ x.mode ≤ 9223372036854775807) ∧ (0 ≤ x.uid ∧ x.uid < 4294967296) ∧ (0 ≤ x.gid ∧ x.gid < 4294967296) ∧ (0 ≤ x.size ∧ x.size < 18446744073709551616) ∧ (-9223372036854775808 ≤ x.atimeHow ∧ x.atimeHow ≤ 9223372036854775807) ∧ (-9223372036854775808 ≤ x.mtimeHow ∧ x.mtimeHow ≤ 9223372036854775807) ∧ x.atime.good ∧ x.mtime.good

structure AttrV where
  type : Int
  mode : Int
  nlink : Int
  uid : Int
  gid : Int
  size : Int
  used : Int
  fileid : Int
  atime : TimeV
  mtime : TimeV
  ctime : TimeV
def AttrV.cells (x : AttrV) : List Value := [.int .i64 x.type, .int .i64 x.mode, .int .i64 x.nlink, .int .u32 x.uid, .int .u32 x.gid, .int .u64 x.size, .int .u64 x.used, .int .u64 x.fileid] ++ x.atime.cells ++ x.mtime.cells ++ x.ctime.cells
def AttrV.good (x : AttrV) : Prop := (-9223372036854775808 ≤ x.type ∧ x.type ≤ 9223372036854775807) ∧ (-9223372036854775808 ≤ x.mode ∧ x.mode ≤ 9223372036854775807) ∧ (-9223372036854775808 ≤ x.nlink ∧ x.nlink ≤ 9223372036854775807) ∧ (0 ≤ x.uid ∧ x.uid < 4294967296) ∧ (0 ≤ x.gid ∧ x.gid < 4294967296) ∧ (0 ≤ x.size ∧ x.size < 18446744073709551616) ∧ (0 ≤ x.used ∧ x.used < 18446744073709551616) ∧ (0 ≤ x.fileid ∧ x.fileid < 18446744073709551616) ∧ x.atime.good ∧ x.mtime.good ∧ x.ctime.good

structure PostV where
  has : Bool
  attr : AttrV
def PostV.cells (x : PostV) : List Value := [.bool x.has] ++ x.attr.cells
def PostV.good (x : PostV) : Prop := x.attr.good

structure WccV where
  has : Bool
  size : Int
  mtime : TimeV
  ctime : TimeV
def WccV.cells (x : WccV) : List Value := [.bool x.has, .int .u64 x.size] ++ x.mtime.cells ++ x.ctime.cells
def WccV.good (x : WccV) : Prop := (0 ≤ x.size ∧ x.size < 18446744073709551616) ∧ x.mtime.good ∧ x.ctime.good

structure EntryV where
  fileid : Int
  name : List UInt8
  cookie : Int
  attr : PostV
  hasHandle : Bool
  handle : List UInt8
def EntryV.cells (x : EntryV) : List Value := [.int .u64 x.fileid, .string (str x.name), .int .u64 x.cookie] ++ x.attr.cells ++ [.bool x.hasHandle, .string (str x.handle)]
def EntryV.good (x : EntryV) : Prop := (0 ≤ x.fileid ∧ x.fileid < 18446744073709551616) ∧ (0 ≤ x.cookie ∧ x.cookie < 18446744073709551616) ∧ x.attr.good

structure ArgsV where
  file : List UInt8
  to : List UInt8
  name : List UInt8
  toName : List UInt8
  path : List UInt8
  set : SattrV
  guard : Bool
  guardTime : TimeV
  access : Int
  offset : Int
  count : Int
  stable : Int
  mode : Int
  type : Int
  data : List UInt8
  verf : Int
  cookie : Int
  cookieVerf : Int
  dirCount : Int
  maxCount : Int
  spec1 : Int
  spec2 : Int
def ArgsV.cells (x : ArgsV) (dv : Value) : List Value := [.string (str x.file), .string (str x.to), .string (str x.name), .string (str x.toName), .string (str x.path)] ++ x.set.cells ++ [.bool x.guard] ++ x.guardTime.cells ++ [.int .u32 x.access, .int .u64 x.offset, .int .u32 x.count, .int .i64 x.stable, .int .i64 x.mode, .int .i64 x.type, dv, .int .u64 x.verf, .int .u64 x.cookie, .int .u64 x.cookieVerf, .int .u32 x.dirCount, .int .u32 x.maxCount, .int .u32 x.spec1, .int .u32 x.spec2]
def ArgsV.good (x : ArgsV) : Prop := x.set.good ∧ x.guardTime.good ∧ (0 ≤ x.access ∧ x.access < 4294967296) ∧ (0 ≤ x.offset ∧ x.offset < 18446744073709551616) ∧ (0 ≤ x.count ∧ x.count < 4294967296) ∧ (-9223372036854775808 ≤ x.stable ∧ x.stable ≤ 9223372036854775807) ∧ (-9223372036854775808 ≤ x.mode ∧ x.mode ≤ 9223372036854775807) ∧ (-9223372036854775808 ≤ x.type ∧ x.type ≤ 9223372036854775807) ∧ (0 ≤ x.verf ∧ x.verf < 18446744073709551616) ∧ (0 ≤ x.cookie ∧ x.cookie < 18446744073709551616) ∧ (0 ≤ x.cookieVerf ∧ x.cookieVerf < 18446744073709551616) ∧ (0 ≤ x.dirCount ∧ x.dirCount < 4294967296) ∧ (0 ≤ x.maxCount ∧ x.maxCount < 4294967296) ∧ (0 ≤ x.spec1 ∧ x.spec1 < 4294967296) ∧ (0 ≤ x.spec2 ∧ x.spec2 < 4294967296)

structure ResV where
  status : Int
  obj : PostV
  dir : PostV
  before : WccV
  toBefore : WccV
  after : PostV
  toAfter : PostV
  hasHandle : Bool
  handle : List UInt8
  access : Int
  path : List UInt8
  count : Int
  eof : Bool
  data : List UInt8
  committed : Int
  verf : Int
  cookieVerf : Int
  entries : List EntryV
  bytes : Int
  freeBytes : Int
  files : Int
  freeFiles : Int
def ResV.cells (x : ResV) (dv : Value) (ev : Value) : List Value := [.int .i64 x.status] ++ x.obj.cells ++ x.dir.cells ++ x.before.cells ++ x.toBefore.cells ++ x.after.cells ++ x.toAfter.cells ++ [.bool x.hasHandle, .string (str x.handle), .int .u32 x.access, .string (str x.path), .int .u32 x.count, .bool x.eof, dv, .int .i64 x.committed, .int .u64 x.verf, .int .u64 x.cookieVerf, ev, .int .u64 x.bytes, .int .u64 x.freeBytes, .int .u64 x.files, .int .u64 x.freeFiles]
def ResV.good (x : ResV) : Prop := (-9223372036854775808 ≤ x.status ∧ x.status ≤ 9223372036854775807) ∧ x.obj.good ∧ x.dir.good ∧ x.before.good ∧ x.toBefore.good ∧ x.after.good ∧ x.toAfter.good ∧ (0 ≤ x.access ∧ x.access < 4294967296) ∧ (0 ≤ x.count ∧ x.count < 4294967296) ∧ (-9223372036854775808 ≤ x.committed ∧ x.committed ≤ 9223372036854775807) ∧ (0 ≤ x.verf ∧ x.verf < 18446744073709551616) ∧ (0 ≤ x.cookieVerf ∧ x.cookieVerf < 18446744073709551616) ∧ (∀ e ∈ x.entries, e.good) ∧ (0 ≤ x.bytes ∧ x.bytes < 18446744073709551616) ∧ (0 ≤ x.freeBytes ∧ x.freeBytes < 18446744073709551616) ∧ (0 ≤ x.files ∧ x.files < 18446744073709551616) ∧ (0 ≤ x.freeFiles ∧ x.freeFiles < 18446744073709551616)

section
variable (w : World) (g o : Nat)
theorem load_str (v : Value) (h : w.rangeAt g o [v]) : (Instr.loadAt 9 (.pointer (some ⟨g, o, none⟩))).run Try.prog w = .ok v w := by
  have h1 := rangeAt_one h
  clear h
  go_simp
theorem load_bool (v : Value) (h : w.rangeAt g o [v]) : (Instr.loadAt 4 (.pointer (some ⟨g, o, none⟩))).run Try.prog w = .ok v w := by
  have h1 := rangeAt_one h
  clear h
  go_simp
theorem load_int (v : Value) (h : w.rangeAt g o [v]) : (Instr.loadAt 3 (.pointer (some ⟨g, o, none⟩))).run Try.prog w = .ok v w := by
  have h1 := rangeAt_one h
  clear h
  go_simp
theorem load_u32 (v : Value) (h : w.rangeAt g o [v]) : (Instr.loadAt 23 (.pointer (some ⟨g, o, none⟩))).run Try.prog w = .ok v w := by
  have h1 := rangeAt_one h
  clear h
  go_simp
theorem load_u64 (v : Value) (h : w.rangeAt g o [v]) : (Instr.loadAt 24 (.pointer (some ⟨g, o, none⟩))).run Try.prog w = .ok v w := by
  have h1 := rangeAt_one h
  clear h
  go_simp
theorem load_bytes (v : Value) (h : w.rangeAt g o [v]) : (Instr.loadAt 22 (.pointer (some ⟨g, o, none⟩))).run Try.prog w = .ok v w := by
  have h1 := rangeAt_one h
  clear h
  go_simp
theorem load_stat (v : Value) (h : w.rangeAt g o [v]) : (Instr.loadAt 33 (.pointer (some ⟨g, o, none⟩))).run Try.prog w = .ok v w := by
  have h1 := rangeAt_one h
  clear h
  go_simp
theorem load_entries (v : Value) (h : w.rangeAt g o [v]) : (Instr.loadAt 40 (.pointer (some ⟨g, o, none⟩))).run Try.prog w = .ok v w := by
  have h1 := rangeAt_one h
  clear h
  go_simp
theorem load_TimeV (x : TimeV) (h : w.rangeAt g o x.cells) : (Instr.loadAt 26 (.pointer (some ⟨g, o, none⟩))).run Try.prog w = .ok (.agg x.cells.toArray) w :=
  run_loadAt_mid w g o _ _ _ h Try.underlying26 rfl (by kernel_rfl)
theorem load_SattrV (x : SattrV) (h : w.rangeAt g o x.cells) : (Instr.loadAt 28 (.pointer (some ⟨g, o, none⟩))).run Try.prog w = .ok (.agg x.cells.toArray) w :=
  run_loadAt_mid w g o _ _ _ h Try.underlying28 rfl (by kernel_rfl)
theorem load_PostV (x : PostV) (h : w.rangeAt g o x.cells) : (Instr.loadAt 37 (.pointer (some ⟨g, o, none⟩))).run Try.prog w = .ok (.agg x.cells.toArray) w :=
  run_loadAt_mid w g o _ _ _ h Try.underlying37 rfl (by kernel_rfl)
theorem load_WccV (x : WccV) (h : w.rangeAt g o x.cells) : (Instr.loadAt 39 (.pointer (some ⟨g, o, none⟩))).run Try.prog w = .ok (.agg x.cells.toArray) w :=
  run_loadAt_mid w g o _ _ _ h Try.underlying39 rfl (by kernel_rfl)
theorem load_EntryV (x : EntryV) (h : w.rangeAt g o x.cells) : (Instr.loadAt 105 (.pointer (some ⟨g, o, none⟩))).run Try.prog w = .ok (.agg x.cells.toArray) w :=
  run_loadAt_mid w g o _ _ _ h Try.underlying105 rfl (by kernel_rfl)
end

section
variable (w : World) (m n : Nat)
theorem ite_ok {p : Prop} [Decidable p] (b : Bool) : (if p then Result.ok (.bool b) w else Result.ok (.bool false) w : Result Value) = .ok (.bool (decide p && b)) w := by
  by_cases h : p <;> simp [h]

theorem eql_str (a b : List UInt8) : (do eqGuard .eql 9 (.tmp m) (.tmp n) (.string (str a)) (.string (str b)); binOp .eql 9 (.string (str a)) (.string (str b))).run Try.prog w = .ok (.bool (eqb a b)) w := by
  rw [← eqb_str]
  go_simp
theorem neq_str (a b : List UInt8) : (do eqGuard .neq 9 (.tmp m) (.tmp n) (.string (str a)) (.string (str b)); binOp .neq 9 (.string (str a)) (.string (str b))).run Try.prog w = .ok (.bool (!eqb a b)) w := by
  rw [← eqb_str]
  go_simp
  try rfl
theorem eql_bool (a b : Bool) : (do eqGuard .eql 4 (.tmp m) (.tmp n) (.bool a) (.bool b); binOp .eql 4 (.bool a) (.bool b)).run Try.prog w = .ok (.bool (eqb a b)) w := by
  rw [← eqb_bool]
  go_simp
theorem neq_bool (a b : Bool) : (do eqGuard .neq 4 (.tmp m) (.tmp n) (.bool a) (.bool b); binOp .neq 4 (.bool a) (.bool b)).run Try.prog w = .ok (.bool (!eqb a b)) w := by
  rw [← eqb_bool]
  go_simp
  try rfl
theorem eql_int (a b : Int) : (do eqGuard .eql 3 (.tmp m) (.tmp n) (.int .i64 a) (.int .i64 b); binOp .eql 3 (.int .i64 a) (.int .i64 b)).run Try.prog w = .ok (.bool (eqb a b)) w := by
  rw [← eqb_int]
  go_simp
theorem neq_int (a b : Int) : (do eqGuard .neq 3 (.tmp m) (.tmp n) (.int .i64 a) (.int .i64 b); binOp .neq 3 (.int .i64 a) (.int .i64 b)).run Try.prog w = .ok (.bool (!eqb a b)) w := by
  rw [← eqb_int]
  go_simp
  try rfl
theorem eql_u32 (a b : Int) : (do eqGuard .eql 23 (.tmp m) (.tmp n) (.int .u32 a) (.int .u32 b); binOp .eql 23 (.int .u32 a) (.int .u32 b)).run Try.prog w = .ok (.bool (eqb a b)) w := by
  rw [← eqb_int]
  go_simp
theorem neq_u32 (a b : Int) : (do eqGuard .neq 23 (.tmp m) (.tmp n) (.int .u32 a) (.int .u32 b); binOp .neq 23 (.int .u32 a) (.int .u32 b)).run Try.prog w = .ok (.bool (!eqb a b)) w := by
  rw [← eqb_int]
  go_simp
  try rfl
theorem eql_u64 (a b : Int) : (do eqGuard .eql 24 (.tmp m) (.tmp n) (.int .u64 a) (.int .u64 b); binOp .eql 24 (.int .u64 a) (.int .u64 b)).run Try.prog w = .ok (.bool (eqb a b)) w := by
  rw [← eqb_int]
  go_simp
theorem neq_u64 (a b : Int) : (do eqGuard .neq 24 (.tmp m) (.tmp n) (.int .u64 a) (.int .u64 b); binOp .neq 24 (.int .u64 a) (.int .u64 b)).run Try.prog w = .ok (.bool (!eqb a b)) w := by
  rw [← eqb_int]
  go_simp
  try rfl
theorem eql_stat (a b : Int) : (do eqGuard .eql 33 (.tmp m) (.tmp n) (.int .i64 a) (.int .i64 b); binOp .eql 33 (.int .i64 a) (.int .i64 b)).run Try.prog w = .ok (.bool (eqb a b)) w := by
  rw [← eqb_int]
  go_simp
theorem neq_stat (a b : Int) : (do eqGuard .neq 33 (.tmp m) (.tmp n) (.int .i64 a) (.int .i64 b); binOp .neq 33 (.int .i64 a) (.int .i64 b)).run Try.prog w = .ok (.bool (!eqb a b)) w := by
  rw [← eqb_int]
  go_simp
  try rfl
set_option maxRecDepth 100000 in
set_option maxHeartbeats 1000000 in
theorem eql_TimeV (x y : TimeV) : (do eqGuard .eql 26 (.tmp m) (.tmp n) (.agg x.cells.toArray) (.agg y.cells.toArray); binOp .eql 26 (.agg x.cells.toArray) (.agg y.cells.toArray)).run Try.prog w = .ok (.bool (eqb x y)) w := by
  by_cases h : x = y
  · subst h
    rw [eqb_self]
    obtain ⟨x0, x1⟩ := x
    simp only [TimeV.cells, List.cons_append, List.nil_append]
    go_simp
  · rw [eqb_ne h]
    obtain ⟨x0, x1⟩ := x
    obtain ⟨y0, y1⟩ := y
    simp only [TimeV.cells, List.cons_append, List.nil_append]
    go_simp
    simpa using h
set_option maxRecDepth 100000 in
set_option maxHeartbeats 1000000 in
theorem neq_TimeV (x y : TimeV) : (do eqGuard .neq 26 (.tmp m) (.tmp n) (.agg x.cells.toArray) (.agg y.cells.toArray); binOp .neq 26 (.agg x.cells.toArray) (.agg y.cells.toArray)).run Try.prog w = .ok (.bool (!eqb x y)) w := by
  by_cases h : x = y
  · subst h
    rw [eqb_self]
    obtain ⟨x0, x1⟩ := x
    simp only [TimeV.cells, List.cons_append, List.nil_append]
    go_simp
  · rw [eqb_ne h]
    obtain ⟨x0, x1⟩ := x
    obtain ⟨y0, y1⟩ := y
    simp only [TimeV.cells, List.cons_append, List.nil_append]
    go_simp
    simpa using h
set_option maxRecDepth 100000 in
set_option maxHeartbeats 1000000 in
theorem eql_SattrV (x y : SattrV) : (do eqGuard .eql 28 (.tmp m) (.tmp n) (.agg x.cells.toArray) (.agg y.cells.toArray); binOp .eql 28 (.agg x.cells.toArray) (.agg y.cells.toArray)).run Try.prog w = .ok (.bool (eqb x y)) w := by
  by_cases h : x = y
  · subst h
    rw [eqb_self]
    obtain ⟨x0, x1, x2, x3, x4, x5, x6, x7, x8, x9, ⟨xa100, xa101⟩, ⟨xm110, xm111⟩⟩ := x
    simp only [SattrV.cells, TimeV.cells, List.cons_append, List.nil_append]
    go_simp
  · rw [eqb_ne h]
    obtain ⟨x0, x1, x2, x3, x4, x5, x6, x7, x8, x9, ⟨xa100, xa101⟩, ⟨xm110, xm111⟩⟩ := x
    obtain ⟨y0, y1, y2, y3, y4, y5, y6, y7, y8, y9, ⟨ya100, ya101⟩, ⟨ym110, ym111⟩⟩ := y
    simp only [SattrV.cells, TimeV.cells, List.cons_append, List.nil_append]
    go_simp
    simpa using h
set_option maxRecDepth 100000 in
set_option maxHeartbeats 1000000 in
theorem neq_SattrV (x y : SattrV) : (do eqGuard .neq 28 (.tmp m) (.tmp n) (.agg x.cells.toArray) (.agg y.cells.toArray); binOp .neq 28 (.agg x.cells.toArray) (.agg y.cells.toArray)).run Try.prog w = .ok (.bool (!eqb x y)) w := by
  by_cases h : x = y
  · subst h
    rw [eqb_self]
    obtain ⟨x0, x1, x2, x3, x4, x5, x6, x7, x8, x9, ⟨xa100, xa101⟩, ⟨xm110, xm111⟩⟩ := x
    simp only [SattrV.cells, TimeV.cells, List.cons_append, List.nil_append]
    go_simp
  · rw [eqb_ne h]
    obtain ⟨x0, x1, x2, x3, x4, x5, x6, x7, x8, x9, ⟨xa100, xa101⟩, ⟨xm110, xm111⟩⟩ := x
    obtain ⟨y0, y1, y2, y3, y4, y5, y6, y7, y8, y9, ⟨ya100, ya101⟩, ⟨ym110, ym111⟩⟩ := y
    simp only [SattrV.cells, TimeV.cells, List.cons_append, List.nil_append]
    go_simp
    simpa using h
set_option maxRecDepth 100000 in
set_option maxHeartbeats 1000000 in
theorem eql_PostV (x y : PostV) : (do eqGuard .eql 37 (.tmp m) (.tmp n) (.agg x.cells.toArray) (.agg y.cells.toArray); binOp .eql 37 (.agg x.cells.toArray) (.agg y.cells.toArray)).run Try.prog w = .ok (.bool (eqb x y)) w := by
  by_cases h : x = y
  · subst h
    rw [eqb_self]
    obtain ⟨x0, ⟨xa10, xa11, xa12, xa13, xa14, xa15, xa16, xa17, ⟨xa1a80, xa1a81⟩, ⟨xa1m90, xa1m91⟩, ⟨xa1c100, xa1c101⟩⟩⟩ := x
    simp only [PostV.cells, AttrV.cells, TimeV.cells, List.cons_append, List.nil_append]
    go_simp
  · rw [eqb_ne h]
    obtain ⟨x0, ⟨xa10, xa11, xa12, xa13, xa14, xa15, xa16, xa17, ⟨xa1a80, xa1a81⟩, ⟨xa1m90, xa1m91⟩, ⟨xa1c100, xa1c101⟩⟩⟩ := x
    obtain ⟨y0, ⟨ya10, ya11, ya12, ya13, ya14, ya15, ya16, ya17, ⟨ya1a80, ya1a81⟩, ⟨ya1m90, ya1m91⟩, ⟨ya1c100, ya1c101⟩⟩⟩ := y
    simp only [PostV.cells, AttrV.cells, TimeV.cells, List.cons_append, List.nil_append]
    go_simp
    simpa using h
set_option maxRecDepth 100000 in
set_option maxHeartbeats 1000000 in
theorem neq_PostV (x y : PostV) : (do eqGuard .neq 37 (.tmp m) (.tmp n) (.agg x.cells.toArray) (.agg y.cells.toArray); binOp .neq 37 (.agg x.cells.toArray) (.agg y.cells.toArray)).run Try.prog w = .ok (.bool (!eqb x y)) w := by
  by_cases h : x = y
  · subst h
    rw [eqb_self]
    obtain ⟨x0, ⟨xa10, xa11, xa12, xa13, xa14, xa15, xa16, xa17, ⟨xa1a80, xa1a81⟩, ⟨xa1m90, xa1m91⟩, ⟨xa1c100, xa1c101⟩⟩⟩ := x
    simp only [PostV.cells, AttrV.cells, TimeV.cells, List.cons_append, List.nil_append]
    go_simp
  · rw [eqb_ne h]
    obtain ⟨x0, ⟨xa10, xa11, xa12, xa13, xa14, xa15, xa16, xa17, ⟨xa1a80, xa1a81⟩, ⟨xa1m90, xa1m91⟩, ⟨xa1c100, xa1c101⟩⟩⟩ := x
    obtain ⟨y0, ⟨ya10, ya11, ya12, ya13, ya14, ya15, ya16, ya17, ⟨ya1a80, ya1a81⟩, ⟨ya1m90, ya1m91⟩, ⟨ya1c100, ya1c101⟩⟩⟩ := y
    simp only [PostV.cells, AttrV.cells, TimeV.cells, List.cons_append, List.nil_append]
    go_simp
    simpa using h
set_option maxRecDepth 100000 in
set_option maxHeartbeats 1000000 in
theorem eql_WccV (x y : WccV) : (do eqGuard .eql 39 (.tmp m) (.tmp n) (.agg x.cells.toArray) (.agg y.cells.toArray); binOp .eql 39 (.agg x.cells.toArray) (.agg y.cells.toArray)).run Try.prog w = .ok (.bool (eqb x y)) w := by
  by_cases h : x = y
  · subst h
    rw [eqb_self]
    obtain ⟨x0, x1, ⟨xm20, xm21⟩, ⟨xc30, xc31⟩⟩ := x
    simp only [WccV.cells, TimeV.cells, List.cons_append, List.nil_append]
    go_simp
  · rw [eqb_ne h]
    obtain ⟨x0, x1, ⟨xm20, xm21⟩, ⟨xc30, xc31⟩⟩ := x
    obtain ⟨y0, y1, ⟨ym20, ym21⟩, ⟨yc30, yc31⟩⟩ := y
    simp only [WccV.cells, TimeV.cells, List.cons_append, List.nil_append]
    go_simp
    simpa using h
set_option maxRecDepth 100000 in
set_option maxHeartbeats 1000000 in
theorem neq_WccV (x y : WccV) : (do eqGuard .neq 39 (.tmp m) (.tmp n) (.agg x.cells.toArray) (.agg y.cells.toArray); binOp .neq 39 (.agg x.cells.toArray) (.agg y.cells.toArray)).run Try.prog w = .ok (.bool (!eqb x y)) w := by
  by_cases h : x = y
  · subst h
    rw [eqb_self]
    obtain ⟨x0, x1, ⟨xm20, xm21⟩, ⟨xc30, xc31⟩⟩ := x
    simp only [WccV.cells, TimeV.cells, List.cons_append, List.nil_append]
    go_simp
  · rw [eqb_ne h]
    obtain ⟨x0, x1, ⟨xm20, xm21⟩, ⟨xc30, xc31⟩⟩ := x
    obtain ⟨y0, y1, ⟨ym20, ym21⟩, ⟨yc30, yc31⟩⟩ := y
    simp only [WccV.cells, TimeV.cells, List.cons_append, List.nil_append]
    go_simp
    simpa using h
set_option maxRecDepth 100000 in
set_option maxHeartbeats 1000000 in
theorem eql_EntryV (x y : EntryV) : (do eqGuard .eql 105 (.tmp m) (.tmp n) (.agg x.cells.toArray) (.agg y.cells.toArray); binOp .eql 105 (.agg x.cells.toArray) (.agg y.cells.toArray)).run Try.prog w = .ok (.bool (eqb x y)) w := by
  by_cases h : x = y
  · subst h
    rw [eqb_self]
    obtain ⟨x0, x1, x2, ⟨xa30, ⟨xa3a10, xa3a11, xa3a12, xa3a13, xa3a14, xa3a15, xa3a16, xa3a17, ⟨xa3a1a80, xa3a1a81⟩, ⟨xa3a1m90, xa3a1m91⟩, ⟨xa3a1c100, xa3a1c101⟩⟩⟩, x4, x5⟩ := x
    simp only [EntryV.cells, PostV.cells, AttrV.cells, TimeV.cells, List.cons_append, List.nil_append]
    go_simp
  · rw [eqb_ne h]
    obtain ⟨x0, x1, x2, ⟨xa30, ⟨xa3a10, xa3a11, xa3a12, xa3a13, xa3a14, xa3a15, xa3a16, xa3a17, ⟨xa3a1a80, xa3a1a81⟩, ⟨xa3a1m90, xa3a1m91⟩, ⟨xa3a1c100, xa3a1c101⟩⟩⟩, x4, x5⟩ := x
    obtain ⟨y0, y1, y2, ⟨ya30, ⟨ya3a10, ya3a11, ya3a12, ya3a13, ya3a14, ya3a15, ya3a16, ya3a17, ⟨ya3a1a80, ya3a1a81⟩, ⟨ya3a1m90, ya3a1m91⟩, ⟨ya3a1c100, ya3a1c101⟩⟩⟩, y4, y5⟩ := y
    simp only [EntryV.cells, PostV.cells, AttrV.cells, TimeV.cells, List.cons_append, List.nil_append]
    go_simp
    simpa [ByteArray.toList_eq, str] using h
set_option maxRecDepth 100000 in
set_option maxHeartbeats 1000000 in
theorem neq_EntryV (x y : EntryV) : (do eqGuard .neq 105 (.tmp m) (.tmp n) (.agg x.cells.toArray) (.agg y.cells.toArray); binOp .neq 105 (.agg x.cells.toArray) (.agg y.cells.toArray)).run Try.prog w = .ok (.bool (!eqb x y)) w := by
  by_cases h : x = y
  · subst h
    rw [eqb_self]
    obtain ⟨x0, x1, x2, ⟨xa30, ⟨xa3a10, xa3a11, xa3a12, xa3a13, xa3a14, xa3a15, xa3a16, xa3a17, ⟨xa3a1a80, xa3a1a81⟩, ⟨xa3a1m90, xa3a1m91⟩, ⟨xa3a1c100, xa3a1c101⟩⟩⟩, x4, x5⟩ := x
    simp only [EntryV.cells, PostV.cells, AttrV.cells, TimeV.cells, List.cons_append, List.nil_append]
    go_simp
  · rw [eqb_ne h]
    obtain ⟨x0, x1, x2, ⟨xa30, ⟨xa3a10, xa3a11, xa3a12, xa3a13, xa3a14, xa3a15, xa3a16, xa3a17, ⟨xa3a1a80, xa3a1a81⟩, ⟨xa3a1m90, xa3a1m91⟩, ⟨xa3a1c100, xa3a1c101⟩⟩⟩, x4, x5⟩ := x
    obtain ⟨y0, y1, y2, ⟨ya30, ⟨ya3a10, ya3a11, ya3a12, ya3a13, ya3a14, ya3a15, ya3a16, ya3a17, ⟨ya3a1a80, ya3a1a81⟩, ⟨ya3a1m90, ya3a1m91⟩, ⟨ya3a1c100, ya3a1c101⟩⟩⟩, y4, y5⟩ := y
    simp only [EntryV.cells, PostV.cells, AttrV.cells, TimeV.cells, List.cons_append, List.nil_append]
    go_simp
    simpa [ByteArray.toList_eq, str] using h
set_option maxRecDepth 100000 in
set_option maxHeartbeats 1000000 in
theorem guard_EntryV (x y : EntryV) (p q : Operand) : (eqGuard .neq 105 p q (.agg x.cells.toArray) (.agg y.cells.toArray)).run Try.prog w = .ok () w := by
  obtain ⟨x0, x1, x2, ⟨xa30, ⟨xa3a10, xa3a11, xa3a12, xa3a13, xa3a14, xa3a15, xa3a16, xa3a17, ⟨xa3a1a80, xa3a1a81⟩, ⟨xa3a1m90, xa3a1m91⟩, ⟨xa3a1c100, xa3a1c101⟩⟩⟩, x4, x5⟩ := x
  obtain ⟨y0, y1, y2, ⟨ya30, ⟨ya3a10, ya3a11, ya3a12, ya3a13, ya3a14, ya3a15, ya3a16, ya3a17, ⟨ya3a1a80, ya3a1a81⟩, ⟨ya3a1m90, ya3a1m91⟩, ⟨ya3a1c100, ya3a1c101⟩⟩⟩, y4, y5⟩ := y
  simp only [EntryV.cells, PostV.cells, AttrV.cells, TimeV.cells, List.cons_append, List.nil_append]
  go_simp
set_option maxRecDepth 100000 in
set_option maxHeartbeats 1000000 in
theorem binneq_EntryV (x y : EntryV) : (binOp .neq 105 (.agg x.cells.toArray) (.agg y.cells.toArray)).run Try.prog w = .ok (.bool (!eqb x y)) w := by
  have h := neq_EntryV w 0 0 x y
  rw [Sem.run_bind, guard_EntryV] at h
  exact h
end

end Go.Proofs.Ytanknjpcgceccaa
