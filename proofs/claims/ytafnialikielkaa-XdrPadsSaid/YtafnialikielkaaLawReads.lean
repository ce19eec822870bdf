/- XdrReads: the law's walk. -/
import Derived.Test.YtafnialikielkaaLawRead
import Derived.Test.YtafnialikielkaaLawW
import Derived.Test.YtafnialikielkaaMid
namespace Go.Proofs.Ytafnialikielkaa
open Go.RowKit

/-- A new reader: its bytes are its own. -/
def NRPost (w : World) (bs : List UInt8) (e : Ending) (w' : World) : Prop :=
  ∃ p ao cap, e = .returned (.pointer (some ⟨p, 0, none⟩)) ∧ RD w' p ao cap bs 0 0 ∧ w.heap.size ≤ p ∧ (∀ k, blk ao k → w.heap.size ≤ k ∧ k < w'.heap.size) ∧ Mods (fun _ => False) w w'

set_option maxHeartbeats 400000 in
theorem NewReader_any (ao : Option Addr) (cap : Nat) (bs : List UInt8) (w : World) (hb : SlB w ao cap bs) (hlen : bs.length ≤ 1000000000) :
    Calls Try.prog 22 #[.slice ao bs.length cap] w (NRPost w bs) := by
  have HC := hid (Clone_any ao cap bs w hb hlen)
  clear hb
  go_enter Try.func22, Try.ntmps22
  go_wp2_with fail
  refine HC.out.mono ?_
  rintro e w1 ⟨xo, xc, rfl, ho, hg⟩
  have ho' := hid ho
  have hg' := hid hg
  clear ho hg
  go_wp2
  go_ret
  have hf : ∀ k, blk xo k → w.heap.size ≤ k := fun k hk => (hg'.out.fresh k hk).resolve_left fun h => h
  refine ⟨w1.heap.size, xo, xc, rfl, ⟨⟨74, heap_alloc_new w1 _⟩, ho'.out.sl.alloc _, fun k hk e => ?_, by omega, by omega⟩, hg'.out.mods.size, fun k hk => ⟨hf k hk, Nat.lt_of_lt_of_le (ho'.out.lt k hk) (by simp)⟩, ((hg'.out.mods.mono fun k _ h => h).trans (Mods.alloc _ _ _))⟩
  have := ho'.out.lt k hk.2
  omega

theorem RD.quiet {w w' : World} {r : Nat} {ao : Option Addr} {cap : Nat} {bs : List UInt8} {at_ : Nat} {err : Int} (h : RD w r ao cap bs at_ err) (hq : Quiet w w') : RD w' r ao cap bs at_ err := h.new (hq.mods _)
theorem RR.quiet {B0 : Nat} {w w' : World} {p : Nat} {ao : Option Addr} {cap : Nat} {q : Nat} {bo : Option Addr} {bcap : Nat} {bs : List UInt8} {at_ : Nat} {err : Int} (h : RR B0 w p ao cap q bo bcap bs at_ err) (hq : Quiet w w') : RR B0 w' p ao cap q bo bcap bs at_ err := h.new (hq.mods _)

/-- An item of a read's: its N is an int. -/
structure Itm.goodN (w : World) (i : Itm) : Prop extends Itm.good w i where
  N : -9223372036854775808 ≤ i.N ∧ i.N ≤ 9223372036854775807

set_option maxHeartbeats 2000000 in
theorem reads_any (w : World) (bo : Option Addr) (bcap : Nat) (bs : List UInt8) (hb : SlB w bo bcap bs) (hbo : ∀ k, rb bo bs.length k → k < w.heap.size)
    (lo : Option Addr) (lc : Nat) (l : List Itm) (hl : Sl w 5 lo l.length lc (l.flatMap Itm.cells)) (hlo : ∀ k, rb lo l.length k → k < w.heap.size) (hg : ∀ i ∈ l, i.goodN w) (hmax : l.length ≤ 9223372036854775807) :
    Calls Try.prog 6 #[.slice bo bs.length bcap, .slice lo l.length lc] w fun e w' => e = .returned (.bool true) ∧ Below w.heap.size w w' := by
  have HL := hid hl; have HLO := hid hlo; have HG := hid hg; have HB := hid hb; have HBO := hid hbo; clear hl hlo hg hb hbo
  by_cases hbig : 16384 < bs.length
  · go_enter Try.func6, Try.ntmps6
    go_wp2_with (go_at_call 8; refine (known_any _).mono ?_; rintro e w1 ⟨rfl, hm1⟩)
    go_ret
    exact ⟨rfl, (hm1.mono (G := fun k => w.heap.size ≤ k) fun _ _ h => h.elim).below (fun k hk h => by omega) (Nat.le_refl _)⟩
  go_enter Try.func6, Try.ntmps6
  go_wp2_with fail
  refine (known_any _).mono ?_
  rintro e w1 ⟨rfl, hm1⟩
  have hm1' := hid hm1
  clear hm1
  have HB1 := hid (HB.out.keep hm1'.out fun _ _ h => h)
  go_wp2_with (at_builtin; refine wpList_appB _ rfl _ _ rfl _ _ _ [] rfl rfl ?c1 _ _ _ bs rfl rfl (HB1.out.alloc _) ?c2 ?_)
  case c2 => simp; omega
  case c1 => exact OwnB.empty _
  intro mo mcap cs' w2 hcs hown hg
  obtain rfl : cs' = bs := hcs
  have hm2 : Mods (fun _ => False) w w2 := hm1'.out.trans ((Mods.alloc _ _ _).step hg.mods fun k hk h => by cases h; simp at hk)
  have hmo : Hid (∀ k, blk mo k → w.heap.size ≤ k) := fun k hk => by
    have := hm1'.out.size
    rcases hg.fresh k hk with h | h
    · cases h; exact this
    · simp at h; omega
  have hown' := hid hown
  have hm2' := hid hm2
  clear hown hm2 hg
  have HB2 := hid (HB.out.keep hm2'.out fun _ _ h => h)
  go_wp2_with fail
  refine (NewReader_any _ _ _ _ hown'.out.sl (by omega)).mono ?_
  rintro e w3 ⟨p, ao, cap, rfl, hr, hp, hao, hm3⟩
  obtain ⟨q, hq⟩ : ∃ q, q = w3.heap.size := ⟨_, rfl⟩
  have hsz2 := hm2'.out.size
  have hsz3 := hm3.size
  have hrr : Hid (RR w.heap.size (w3.alloc (.cells #[.slice bo cs'.length bcap, .int .i64 0, .int .i64 0] 60)) p ao cap q bo bcap cs' 0 0) := by
    have hlt := hr.lt
    have hbig' : cs'.length ≤ 1000000000 := by omega
    refine ⟨hr.new (Mods.alloc _ _ _), ⟨⟨60, by rw [hq]; exact heap_alloc_new w3 _⟩, (HB2.out.keep hm3 fun _ _ h => h).alloc _, fun k hk e => ?_, by omega, hbig'⟩, by omega, fun k hk e => ?_, fun k hk e => ?_, by omega, by omega⟩
    · have := HBO.out k hk; omega
    · have := HBO.out k hk; omega
    · have := (hao k hk.2).2; omega
  have hmods : Hid (Mods (fun k => w.heap.size ≤ k) w (w3.alloc (.cells #[.slice bo cs'.length bcap, .int .i64 0, .int .i64 0] 60))) :=
    ((hm2'.out.mono fun _ _ h => h.elim).trans (hm3.mono fun _ _ h => h.elim)).trans (Mods.alloc _ _ _)
  have hown3 : Hid (OwnB (w3.alloc (.cells #[.slice bo cs'.length bcap, .int .i64 0, .int .i64 0] 60)) mo mcap cs') := (hown'.out.keep hm3 fun _ _ h => h).alloc _
  have hmo2 : Hid (∀ k, blk mo k → ¬ twoOf p q k) := fun k hk h => by
    have := hown'.out.lt k hk
    rcases h with h | h <;> omega
  clear hr hm3 hown' hm2' HB1 HB2 hm1' hao hmo hp hsz2 hsz3
  go_wp2
  rw [← hq]
  clear hq
  go_loopw [8] (fun i wr => ∃ (k : Nat) (at_ : Nat) (err : Int), k ≤ l.length ∧ k ≤ 60 ∧ i = .int .i64 (k : Int) ∧
      RR w.heap.size wr p ao cap q bo bcap cs' at_ err ∧ OwnB wr mo mcap cs' ∧ Mods (fun k => w.heap.size ≤ k) w wr) (fun i _ => l.length - (intOf i).toNat)
  case atStart => exact ⟨0, 0, 0, by omega, by omega, by go_num, hrr.out, hown3.out, hmods.out⟩
  case round =>
    obtain ⟨k, at_, err, hk, hk60, rfl, hw, ho, hm⟩ := hrel
    have HW := hid hw; have HM := hid hm; have HO := hid ho; clear hw hm ho hrr hmods hown3
    by_cases hlt : k < l.length
    · by_cases h60 : k < 60
      · obtain ⟨it, hit⟩ : ∃ i, i = l[k] := ⟨_, rfl⟩
        have hgood := hid (HG.out it (by rw [hit]; simp))
        have HC : Hid (∃ b o, lo = some ⟨b, o, none⟩ ∧ ∀ j u, it.cells[j]? = some u → wr.cell? ⟨b, o + k * 5 + j, none⟩ = some u) := by
          have h1 := (HL.out.below HLO.out HM.out).elem (f := Itm.cells) (fun _ => rfl) (by decide) hlt
          rw [← hit] at h1
          exact h1
        obtain ⟨kind, N, V, On, io, ic, ibs⟩ := it
        obtain ⟨b, o, rfl, hcell⟩ := HC.out
        have c0 : wr.cell? ⟨b, o + k * 5, none⟩ = some (.int .i64 kind) := hcell 0 _ rfl
        have c1 := hcell 1 _ rfl
        have c2 := hcell 2 _ rfl
        have c3 := hcell 3 _ rfl
        have c4 := hcell 4 _ rfl
        clear hcell HC hit HL HLO HG HB HBO
        obtain ⟨a1, ha1⟩ : ∃ a, a = (itemRead kind N cs' at_ err).1 := ⟨_, rfl⟩
        obtain ⟨e1, he1⟩ : ∃ a, a = (itemRead kind N cs' at_ err).2 := ⟨_, rfl⟩
        have HR := fun (wz : World) (hm : Mods (fun _ => False) wr wz) => read_any w.heap.size wz p ao cap q bo bcap cs' at_ err (HW.out.new hm) kind N V On (.slice io ibs.length ic) hgood.out.N
        rw [← ha1, ← he1] at HR
        have HR' := hid HR
        clear HR ha1 he1 hgood
        go_wp2_with fail
        refine wp_region_any (by kernel_rfl) ?_
        change wpAny _ _ _ _ _ _ _ (World.drew _)
        refine wpAny_take (i := 0) (v := ?_) rfl (by kernel_rfl) (by kernel_rfl) (by kernel_rfl) (fun _ _ _ h => h) (Or.inl ⟨by rfl, ?hy⟩) ?_
        case hy => intro w; go_simp; try with_reducible rfl
        refine wpAny_take (i := 1) (v := ?_) rfl (by kernel_rfl) (by kernel_rfl) (by kernel_rfl) (fun _ _ _ h => h) (Or.inl ⟨by rfl, ?hy⟩) ?_
        case hy => intro w; go_simp; try with_reducible rfl
        refine wpAny_take (i := 2) (v := ?_) rfl (by kernel_rfl) (by kernel_rfl) (by kernel_rfl) (fun _ _ _ h => h) (Or.inl ⟨by rfl, ?hy⟩) ?_
        case hy => intro w; go_simp; try with_reducible rfl
        refine wpAny_take (i := 3) (v := ?_) rfl (by kernel_rfl) (by kernel_rfl) (by kernel_rfl) (fun _ _ _ h => h) (Or.inl ⟨by rfl, ?hy⟩) ?_
        case hy => intro w; go_simp; try with_reducible rfl
        refine wpAny_take (i := 4) (v := ?_) rfl (by kernel_rfl) (by kernel_rfl) (by kernel_rfl) (fun _ _ _ h => h) (Or.inl ⟨by rfl, ?hy⟩) ?_
        case hy => intro w; go_simp; try with_reducible rfl
        refine wpAny_ready (rs := [5]) (by kernel_rfl) (by simp) ?_
        refine AllReady.cons rfl (fun K hK => ?_) AllReady.nil
        go_simp
        refine hK _ _ ?_
        clear hK K
        refine wpAny_ready (rs := [6]) (by kernel_rfl) (by simp) ?_
        refine AllReady.cons rfl (fun K hK => ?_) AllReady.nil
        go_simp
        refine (HR'.out _ (Mods.drew _ _)).mono ?_
        rintro e w4 ⟨rfl, hrr4, hm4⟩
        have hrr4' := hid hrr4
        have hm4' := hid ((Mods.drew (twoOf p q) wr).trans hm4)
        have cp := hrr4.two.c1
        have ce := hrr4.two.c2
        clear hrr4 hm4
        go_simp
        refine hK _ _ ?_
        clear hK K
        refine wpAny_quiet_from 7 (by kernel_rfl) rfl (by kernel_rfl) ?_
        simp only [List.drop_succ_cons, List.drop_zero]
        repeat (go_big_quiet_step (first | (go_at_call 24; exact quiet_same (At_any _ _ _ _ _ _ _ (hrr4'.out.one.drewN _))) | (go_at_call 25; exact quiet_quiet (Left_any _ _ _ _ _ _ _ (hrr4'.out.one.drewN _))) | (go_at_call 29; exact quiet_quiet (RLeft_any _ _ _ _ _ _ _ (hrr4'.out.two.drewN _))) | (go_at_call 26; exact quiet_same (Err_any _ _ _ _ _ _ _ (hrr4'.out.one.drewN _)))))
        refine wpQuiet_nil ?_
        rintro w5 ⟨nq, rfl⟩
        have hmn := hid (hm4'.out.trans (Mods.drewN (twoOf p q) w4 nq))
        have hrn := hid (hrr4'.out.new (Mods.drewN _ w4 nq))
        have hon := hid (HO.out.keep hmn.out hmo2.out)
        have hmm := hid (HM.out.step hmn.out fun k _ h => by
          rcases h with h | h
          · have := HW.out.lp; omega
          · have := HW.out.lq; omega)
        clear cp ce c0 c1 c2 c3 c4 HR' hrr4' hm4'
        go_wp2
        go_roundw
        case rel => exact ⟨k + 1, a1, e1, by omega, by omega, by go_num, hrn.out, hon.out, hmm.out⟩
        case measure => simp [intOf]; omega
      · have hcv0 := run_conv HO.out.sl
        have hcv1 := run_conv (HB.out.below HBO.out HM.out)
        go_wp2
        go_ret
        exact ⟨rfl, HM.out.below (fun k hk h => by omega) (Nat.le_refl _)⟩
    · have hcv0 := run_conv HO.out.sl
      have hcv1 := run_conv (HB.out.below HBO.out HM.out)
      go_wp2
      go_ret
      exact ⟨rfl, HM.out.below (fun k hk h => by omega) (Nat.le_refl _)⟩

end Go.Proofs.Ytafnialikielkaa
