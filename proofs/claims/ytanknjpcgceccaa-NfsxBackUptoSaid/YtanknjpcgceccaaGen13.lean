/- nfsx's coder: fixed, fixed64, whether it reads or writes. -/
import Derived.Test.YtanknjpcgceccaaGen10
namespace Go.Proofs.Ytanknjpcgceccaa
open Go.RowKit

/-- One number that is always the same. -/
def sFix (n : Nat) (v : Int) (s : St) : St := let r := s.num n v; r.2.must (r.1 == v)
def sFixed (l : List Int) (s : St) : St := l.foldl (fun s v => sFix 4 v s) s
def pFixed (l : List Int) (x : X) : X := (sFixed l x.1, x.2)
def pFixed64 (v : Int) (x : X) : X := (sFix 8 v x.1, x.2)
def pMust (b : Bool) (x : X) : X := (x.1.must b, x.2)
theorem size_sFix (n : Nat) (v : Int) (s : St) : (sFix n v s).size ≤ s.size + n := by
  unfold sFix
  simp only [St.size_must]
  exact St.size_num s n v
theorem sFixed_snoc (l : List Int) (v : Int) (s : St) : sFixed (l ++ [v]) s = sFix 4 v (sFixed l s) := by simp [sFixed]
theorem size_sFixed (l : List Int) : ∀ s : St, (sFixed l s).size ≤ s.size + 4 * l.length := by
  induction l with
  | nil => intro s; simp [sFixed]
  | cons v l ih =>
    intro s
    have h1 := ih (sFix 4 v s)
    have h2 := size_sFix 4 v s
    show (sFixed l (sFix 4 v s)).size ≤ _
    simp only [List.length_cons]
    omega
theorem Ok.must {lay : List Ty} {n : Nat} {x : X} (h : Ok lay n x) (b : Bool) : Ok lay n (pMust b x) := ⟨h.ty, by simp only [pMust, St.size_must]; exact h.size⟩
theorem Ok.fixed {lay : List Ty} {n : Nat} {x : X} (h : Ok lay n x) (l : List Int) : Ok lay (n + 4 * l.length) (pFixed l x) := ⟨h.ty, Nat.le_trans (size_sFixed l x.1) (Nat.add_le_add_right h.size _)⟩
theorem Ok.fixed64 {lay : List Ty} {n : Nat} {x : X} (h : Ok lay n x) (v : Int) : Ok lay (n + 8) (pFixed64 v x) := ⟨h.ty, Nat.le_trans (size_sFix 8 v x.1) (Nat.add_le_add_right h.size _)⟩

theorem At.must {w : World} {c : Nat} {F : Nat → Prop} {g : Nat} {x : X} (h : At w c F g x) (b : Bool) :
    Calls Try.prog 70 #[.pointer (some ⟨c, 0, none⟩), .bool b] w (GQ w c F g (.tuple #[]) (pMust b x)) :=
  (must_gen c F x.1 b g x.2 w h.co h.bl h.ap).mono fun _ _ hq => GP.q (x := pMust b x) hq h.ap h.bl.lt

/-- The local number 'v', and the call 'c.u64(&v)'. -/
theorem u64_local (c : Nat) (F : Nat → Prop) (s : St) (g : Nat) (A : Cells) (n : Int) (t t2 : TypeId) (w : World) (h : CO w c F s) (hb : Blk w g A) (hg : ¬ F g) (hlen : s.size + 8 ≤ 20000000) (hn : 0 ≤ n ∧ n < ((256 ^ 8 : Nat) : Int)) :
    Calls Try.prog 56 #[.pointer (some ⟨c, 0, none⟩), .slice (some ⟨w.heap.size + 1, 0, none⟩) 1 1] ((w.alloc (.cells #[.int .u64 n] t)).alloc (.cells #[.pointer (some ⟨w.heap.size, 0, none⟩)] t2)) fun e w' =>
      e = .returned (.tuple #[]) ∧ ∃ F', Hid (CO w' c F' (s.num 8 n).2) ∧ Hid (GG w F g w' F') ∧ Hid (Blk w' g A) ∧ w'.cell? ⟨w.heap.size, 0, none⟩ = some (.int .u64 (s.num 8 n).1) := by
  have hm : Mods (fun _ => False) w ((w.alloc (.cells #[.int .u64 n] t)).alloc (.cells #[.pointer (some ⟨w.heap.size, 0, none⟩)] t2)) := (Mods.alloc _ _ _).trans (Mods.alloc _ _ _)
  have hnew : ∀ k, w.heap.size ≤ k → ¬ F k := fun k hk hf => by have := h.lt k hf; omega
  refine (u64_gen c F s w.heap.size (fun j => #[Value.int .u64 n][j]?) _ 1 [0] _ (h.keep hm fun _ _ h => h) ((Blk.new w _ t).keep (Mods.alloc (fun _ => False) _ _) fun h => h) (hnew _ (Nat.le_refl _)) hlen (by simp) (by
    intro o ho
    simp only [List.mem_singleton] at ho
    subst ho
    exact ⟨n, rfl, hn⟩) (by
    have := Sl.ptr (w.alloc (.cells #[.int .u64 n] t)) (.pointer (some ⟨w.heap.size, 0, none⟩)) t2
    simpa using this) (fun k hk => by
    have hk' : w.heap.size + 1 = k := hk.2
    exact ⟨hnew k (by omega), by omega⟩)).mono ?_
  rintro e w' ⟨F', rfl, h1, h2, h3, h4⟩
  have hglt := hb.lt
  have hgg : GG w F g w' F' := GG.other hm (Nat.le_refl _) ⟨h2, h3⟩
  refine ⟨rfl, F', h1, hgg, (hb.keep hm fun h => h).keep h2 (fun hf => hf.elim hg (by omega)), (h4.cell 0).trans rfl⟩

set_option maxRecDepth 100000 in
set_option maxHeartbeats 2000000 in
theorem fixed64_gen (c : Nat) (F : Nat → Prop) (g : Nat) (x : X) (v : Int) (w : World) (h : At w c F g x) (hlen : x.1.size + 8 ≤ 20000000) (hv : 0 ≤ v ∧ v < ((256 ^ 8 : Nat) : Int)) :
    Calls Try.prog 93 #[.pointer (some ⟨c, 0, none⟩), .int .u64 v] w (GQ w c F g (.tuple #[]) (pFixed64 v x)) := by
  have D := hid (u64_local c F x.1 g x.2 v 24 125 w h.co h.bl h.ap hlen hv)
  have HAP := hid h.ap; have HBL := hid h.bl.lt
  obtain ⟨r, hr⟩ : ∃ r, r = x.1.num 8 v := ⟨_, rfl⟩
  rw [← hr] at D
  have HR := hid hr
  clear h hlen hv hr
  go_enter Try.func93, Try.ntmps93
  go_wp2_with fail
  refine D.out.mono ?_
  rintro e w1 ⟨rfl, F1, q1, q2, q3, hcell⟩
  have M := hid (At.must (x := (r.2, x.2)) ⟨q1.out, q3.out, q2.out.apart HAP.out HBL.out⟩ (r.1 == v))
  clear D q1 q3
  go_wp2_with fail
  refine M.out.mono ?_
  rintro e w2 ⟨rfl, F2, p1, p2⟩
  clear M hcell
  go_wp2
  go_end0
  have he : pFixed64 v x = pMust (r.1 == v) (r.2, x.2) := by rw [HR.out]; rfl
  rw [he]
  exact ⟨rfl, F2, p1, q2.out.trans p2.out⟩

set_option maxRecDepth 100000 in
set_option maxHeartbeats 2000000 in
theorem fixed_gen (c : Nat) (F : Nat → Prop) (g : Nat) (x : X) (lo : Option Addr) (lc : Nat) (l : List Int) (w : World) (h : At w c F g x) (hlen : x.1.size + 4 * l.length ≤ 20000000) (hn : l.length ≤ 1000) (hv : ∀ v ∈ l, 0 ≤ v ∧ v < ((256 ^ 4 : Nat) : Int))
    (hl : Sl w 1 lo l.length lc (l.map fun v => .int .u32 v)) (hd : ∀ k, rb lo l.length k → k < w.heap.size ∧ ¬ F k ∧ k ≠ g) :
    Calls Try.prog 69 #[.pointer (some ⟨c, 0, none⟩), .slice lo l.length lc] w (GQ w c F g (.tuple #[]) (pFixed l x)) := by
  have H := hid h; have HL := hid hl; have HD := hid hd; have HV := hid hv; have HLN := hid hlen
  clear h hl hd hv hlen
  go_enter Try.func69, Try.ntmps69
  go_wp2
  go_loopw [9] (fun i wr => ∃ (k : Nat) (F' : Nat → Prop), k ≤ l.length ∧ i = .int .i64 (k : Int) ∧ Hid (At wr c F' g (pFixed (l.take k) x)) ∧ Hid (GG w F g wr F')) (fun i _ => l.length - (intOf i).toNat)
  case atStart => exact ⟨0, F, by omega, by go_num, H.out, GG.refl _ _ _⟩
  case round =>
    obtain ⟨k, F', hk, rfl, hat, hgg⟩ := hrel
    by_cases hlt : k < l.length
    · have HC : Hid (∃ b o, lo = some ⟨b, o, none⟩ ∧ wr.cell? ⟨b, o + k, none⟩ = some (.int .u32 l[k])) := by
        obtain ⟨b, o, h1, h2⟩ := (HL.out.keep hgg.out.mods (fun j hj hf => by
          rcases hf with hf | hf
          · exact (HD.out j hj).2.1 hf
          · exact (HD.out j hj).2.2 hf)).at (j := k) (by simpa using hlt)
        exact ⟨b, o, h1, by simpa using h2⟩
      have HS : Hid (pFixed (l.take (k + 1)) x = (sFix 4 l[k] (sFixed (l.take k) x.1), x.2)) := by
        show pFixed _ _ = _
        rw [pFixed, List.take_succ_eq_append_getElem hlt, sFixed_snoc]
      have HZ : Hid ((sFixed (l.take k) x.1).size + 4 ≤ 20000000) := by
        have h1 := size_sFixed (l.take k) x.1
        have h2 := HLN.out
        have h3 : (l.take k).length = k := by simp; omega
        show _ ≤ _
        omega
      have HVK : Hid (0 ≤ l[k] ∧ l[k] < ((256 ^ 4 : Nat) : Int)) := HV.out _ (List.getElem_mem hlt)
      obtain ⟨b, o, rfl, hcell⟩ := HC.out
      obtain ⟨v, hv⟩ : ∃ q, q = l[k] := ⟨_, rfl⟩
      rw [← hv] at hcell HS HVK
      obtain ⟨s, hs⟩ : ∃ q, q = sFixed (l.take k) x.1 := ⟨_, rfl⟩
      have hat' : Hid (At wr c F' g (s, x.2)) := by rw [hs]; exact hat
      rw [← hs] at HS HZ
      clear hv HC hat hs
      have D := hid (u32_local c F' s g x.2 v 23 123 wr hat'.out.co hat'.out.bl hat'.out.ap HZ.out HVK.out)
      have HAP := hid hat'.out.ap; have HBL := hid hat'.out.bl.lt
      obtain ⟨r, hr⟩ : ∃ r, r = s.num 4 v := ⟨_, rfl⟩
      rw [← hr] at D
      have HR := hid hr
      clear hr hat'
      go_wp2_with fail
      refine D.out.mono ?_
      rintro e w1 ⟨rfl, F1, q1, q2, q3, hcl⟩
      have M := hid (At.must (x := (r.2, x.2)) ⟨q1.out, q3.out, q2.out.apart HAP.out HBL.out⟩ (r.1 == v))
      clear D q1 q3
      go_wp2_with fail
      refine M.out.mono ?_
      rintro e w2 ⟨rfl, F2, p1, p2⟩
      have P1 : Hid (At w2 c F2 g (pFixed (l.take (k + 1)) x)) := by
        have he : pFixed (l.take (k + 1)) x = pMust (r.1 == v) (r.2, x.2) := by rw [HS.out, HR.out]; rfl
        rw [he]; exact p1
      have P2 := hid (hgg.out.trans (q2.out.trans p2.out))
      clear M p1 p2 q2 hgg hcl hcell HS
      go_wp2
      go_roundw
      case rel => exact ⟨k + 1, F2, by omega, by go_num, P1, P2⟩
      case measure => simp [intOf]; omega
    · have hkn : l.take k = l := List.take_of_length_le (by omega)
      rw [hkn] at hat
      clear hkn
      go_wp2
      go_end0
      exact ⟨rfl, F', hat, hgg⟩

/-- Numbers behind one another in a slice of their own. -/
theorem At.fixed {w : World} {c : Nat} {F : Nat → Prop} {g : Nat} {x : X} {lay : List Ty} {n : Nat} (h : At w c F g x) (hk : Ok lay n x) (l : List Int) (t : TypeId) (hl : l ≠ []) (hn : n + 4 * l.length ≤ 20000000) (h1 : l.length ≤ 1000) (hv : ∀ v ∈ l, 0 ≤ v ∧ v < 4294967296) :
    Calls Try.prog 69 #[.pointer (some ⟨c, 0, none⟩), .slice (some ⟨w.heap.size, 0, none⟩) l.length l.length] (w.alloc (.cells (l.map fun v => Value.int .u32 v).toArray t)) (GQ w c F g (.tuple #[]) (pFixed l x)) := by
  have hm : Mods (fun _ => False) w (w.alloc (.cells (l.map fun v => Value.int .u32 v).toArray t)) := Mods.alloc _ _ _
  have h' := h.keep hm
  have hob := heap_alloc_new w (.cells (l.map fun v => Value.int .u32 v).toArray t)
  have hs := hk.size
  have hlt := h.bl.lt
  refine (fixed_gen c F g x _ l.length l _ h' (by omega) h1 (fun v hvl => by have := hv v hvl; exact ⟨this.1, by have := this.2; simp; omega⟩) ⟨by simp, Nat.le_refl _, by simp, fun j y hy => ⟨_, _, rfl, ?_⟩⟩ (fun k hk' => by
    have hk2 : w.heap.size = k := hk'.2
    subst hk2
    exact ⟨by simp, fun hf => by have := h.co.lt _ hf; omega, by omega⟩)).mono fun e w' hq => ?_
  · rw [Nat.zero_add, cell_of_row _ _ _ _ _ _ hob]
    simpa using hy
  · obtain ⟨he, F', q1, q2⟩ := hq
    exact ⟨he, F', q1, (GG.new g hm).trans q2.out⟩

end Go.Proofs.Ytanknjpcgceccaa
