/- Layer 8 (sector): a call of both (the law's step). -/
import Derived.Test.YtaldjmhikebecaaDuo
import Derived.Deep.RegionHeld3
namespace Go.Proofs.Ytaldjmhikebecaa
open Go Go.RowKit
set_option maxRecDepth 100000
set_option linter.unusedVariables false
attribute [local go_sem] Oper.semAt_some
def RetStep (w : World) (B : Nat) (b : Bk) (c : Nat) (e : Ending) (w' : World) : Prop := e = .returned (.bool true) ∧ Touch b.S w w' ∧ ∃ k' c', Duo w' B b c' k' ∧ c' ≤ c + 65537
section
variable {w w' : World} {B c : Nat} {b : Bk} {k : Dsk}
theorem ints_i64 {k : Dsk} (hn : k.n ≤ 65536) : ∀ x ∈ ints k.looseL, -9223372036854775808 ≤ x ∧ x ≤ 9223372036854775807 := by
  intro x hx
  obtain ⟨i, hi, rfl⟩ := List.mem_map.1 hx
  have := (mem_looseL.1 hi).1
  omega
theorem retRead_none {f : Nat} {ps : Array Value} {i m : Nat} (h : Calls Try.prog f ps w (RetRead w k i m)) (hr : k.read i m = none) : Calls Try.prog f ps w fun e w' => e = .returned (.tuple #[.slice none 0 0, .int .i64 81]) ∧ Below w.heap.size w w' :=
  h.mono fun e w' h => by unfold RetRead at h; rw [hr] at h; exact h
theorem retRead_some {f : Nat} {ps : Array Value} {i m : Nat} {l : List UInt8} (h : Calls Try.prog f ps w (RetRead w k i m)) (hr : k.read i m = some l) : Calls Try.prog f ps w fun e w' => ∃ A n c, e = .returned (.tuple #[.slice A n c, .int .i64 0]) ∧ Bs w' A n c l ∧ Below w.heap.size w w' :=
  h.mono fun e w' h => by
    unfold RetRead at h
    rw [hr] at h
    obtain ⟨A, c, he, ho, hb⟩ := h
    exact ⟨A, _, c, he, Bs.of_own ho, hb⟩
theorem Bs.none (w : World) : Bs w none 0 0 [] := Rd.nil _ _ _ _ (by decide)
/-- Sectors, read by both: two slices of the same bytes, or both none. -/
theorem read_any (h : Duo w B b c k) (i n : Int) (hi : I64 i) (hn : I64 n) : ∃ l : List UInt8, ∃ z : Int, ∀ w1, Below w.heap.size w w1 →
    (Calls Try.prog 22 #[.pointer (some ⟨b.d, 0, none⟩), .int .i64 i, .int .i64 n] w1 fun e w2 => ∃ A n c, e = .returned (.tuple #[.slice A n c, .int .i64 z]) ∧ Bs w2 A n c l ∧ Below w1.heap.size w1 w2) ∧
    (Calls Try.prog 55 #[.pointer (some ⟨b.r, 0, none⟩), .int .i64 i, .int .i64 n] w1 fun e w2 => ∃ A n c, e = .returned (.tuple #[.slice A n c, .int .i64 z]) ∧ Bs w2 A n c l ∧ Below w1.heap.size w1 w2) := by
  obtain ⟨x, hx, hr⟩ := h.ref
  by_cases hin : 0 ≤ i ∧ 0 ≤ n ∧ i ≤ k.n ∧ n ≤ k.n - i
  · obtain ⟨i, rfl⟩ := Int.eq_ofNat_of_zero_le hin.1
    obtain ⟨n, rfl⟩ := Int.eq_ofNat_of_zero_le hin.2.1
    have him : i + n ≤ k.n := by omega
    cases hrd : k.read i n with
    | none =>
      refine ⟨[], 81, fun w1 hb => ⟨?_, ?_⟩⟩
      · refine (retRead_none (Read_ok (h.dsk.below hb) i n him) hrd).mono ?_
        rintro e w2 ⟨rfl, hb2⟩
        exact ⟨none, 0, 0, rfl, Bs.none _, hb2⟩
      · refine (retRead_none (RRead_ok (hr.below hb) i n him) ((read_left _ _ _ _).trans hrd)).mono ?_
        rintro e w2 ⟨rfl, hb2⟩
        exact ⟨none, 0, 0, rfl, Bs.none _, hb2⟩
    | some l => exact ⟨l, 0, fun w1 hb => ⟨retRead_some (Read_ok (h.dsk.below hb) i n him) hrd, retRead_some (RRead_ok (hr.below hb) i n him) ((read_left _ _ _ _).trans hrd)⟩⟩
  · refine ⟨[], 5, fun w1 hb => ⟨?_, ?_⟩⟩
    · refine (Read_range (h.dsk.below hb) i n hi hin).mono ?_
      rintro e w2 ⟨rfl, rfl⟩
      exact ⟨none, 0, 0, rfl, Bs.none _, Below.refl _ _⟩
    · refine (RRead_range (hr.below hb) i n hi hin).mono ?_
      rintro e w2 ⟨rfl, rfl⟩
      exact ⟨none, 0, 0, rfl, Bs.none _, Below.refl _ _⟩
theorem Duo.lt (h : Duo w B b c k) : ∀ i, b.S i → i < w.heap.size := by
  obtain ⟨x, hx, hr⟩ := h.ref
  obtain ⟨cur, h1, _⟩ := hr.row
  have hl := h.dsk.lts
  rintro i ((rfl | rfl | rfl | rfl) | (rfl | rfl))
  · exact hl.1
  · exact hl.2.1
  · exact hl.2.2.1
  · exact hl.2.2.2
  · exact blk_lt hr.blk
  · exact blk_lt h1
set_option maxHeartbeats 2000000 in
theorem step_write (h : Duo w B b c k) (i n torn cut : Int) (BA KA : Option Addr) (bn bc kn kc : Nat) (l : List UInt8) (keep : List Bool) (hi : I64 i) (hn : I64 n) (hB : Bs w BA bn bc l) (hK : Rd w 1 KA kn kc (keep.map Value.bool)) (hBA : 0 < bn → ∀ ad, BA = some ad → ad.block < B) (hKA : 0 < kn → ∀ ad, KA = some ad → ad.block < B) (hc : c + 65537 < 1099511627776) :
    Calls Try.prog 21 #[.pointer (some ⟨b.d, 0, none⟩), .pointer (some ⟨b.r, 0, none⟩), .agg #[.int .i64 2, .int .i64 i, .int .i64 n, .slice BA bn bc, .slice KA kn kc, .int .i64 torn, .int .i64 cut]] w (RetStep w B b c) := by
  have hb0 : Below w.heap.size w (w.alloc (.cells #[.int .i64 2, .int .i64 i, .int .i64 n, .slice BA bn bc, .slice KA kn kc, .int .i64 torn, .int .i64 cut] 46)) := (Below.refl _ w).alloc (Nat.le_refl _) _
  have hq0 := blk_new w (.cells #[.int .i64 2, .int .i64 i, .int .i64 n, .slice BA bn bc, .slice KA kn kc, .int .i64 torn, .int .i64 cut] 46)
  have HD := Lib.hid (h.below hb0)
  have hns : ¬ b.S w.heap.size := fun hs => by have := h.lt _ hs; omega
  have HNS := Lib.hid hns
  have HT0 := Lib.hid (Touch.of_below (S := b.S) hb0)
  have HB := Lib.hid (hB.below hb0)
  have HK := Lib.hid (hK.below hb0)
  have HBA := Lib.hid hBA
  have HKA := Lib.hid hKA
  have x1 : (w.alloc (.cells #[.int .i64 2, .int .i64 i, .int .i64 n, .slice BA bn bc, .slice KA kn kc, .int .i64 torn, .int .i64 cut] 46)).cell? ⟨w.heap.size, 1, none⟩ = some (.int .i64 i) := blk_cell hq0 1
  have x2 : (w.alloc (.cells #[.int .i64 2, .int .i64 i, .int .i64 n, .slice BA bn bc, .slice KA kn kc, .int .i64 torn, .int .i64 cut] 46)).cell? ⟨w.heap.size, 2, none⟩ = some (.int .i64 n) := blk_cell hq0 2
  have x3 : (w.alloc (.cells #[.int .i64 2, .int .i64 i, .int .i64 n, .slice BA bn bc, .slice KA kn kc, .int .i64 torn, .int .i64 cut] 46)).cell? ⟨w.heap.size, 3, none⟩ = some (.slice BA bn bc) := blk_cell hq0 3
  have x4 : (w.alloc (.cells #[.int .i64 2, .int .i64 i, .int .i64 n, .slice BA bn bc, .slice KA kn kc, .int .i64 torn, .int .i64 cut] 46)).cell? ⟨w.heap.size, 4, none⟩ = some (.slice KA kn kc) := blk_cell hq0 4
  have x5 : (w.alloc (.cells #[.int .i64 2, .int .i64 i, .int .i64 n, .slice BA bn bc, .slice KA kn kc, .int .i64 torn, .int .i64 cut] 46)).cell? ⟨w.heap.size, 5, none⟩ = some (.int .i64 torn) := blk_cell hq0 5
  have x6 : (w.alloc (.cells #[.int .i64 2, .int .i64 i, .int .i64 n, .slice BA bn bc, .slice KA kn kc, .int .i64 torn, .int .i64 cut] 46)).cell? ⟨w.heap.size, 6, none⟩ = some (.int .i64 cut) := blk_cell hq0 6
  have X := Lib.hid (show (w.alloc (.cells #[.int .i64 2, .int .i64 i, .int .i64 n, .slice BA bn bc, .slice KA kn kc, .int .i64 torn, .int .i64 cut] 46)).cell? ⟨w.heap.size, 1, none⟩ = some (.int .i64 i) ∧ (w.alloc (.cells #[.int .i64 2, .int .i64 i, .int .i64 n, .slice BA bn bc, .slice KA kn kc, .int .i64 torn, .int .i64 cut] 46)).cell? ⟨w.heap.size, 2, none⟩ = some (.int .i64 n) ∧ (w.alloc (.cells #[.int .i64 2, .int .i64 i, .int .i64 n, .slice BA bn bc, .slice KA kn kc, .int .i64 torn, .int .i64 cut] 46)).cell? ⟨w.heap.size, 3, none⟩ = some (.slice BA bn bc) ∧ (w.alloc (.cells #[.int .i64 2, .int .i64 i, .int .i64 n, .slice BA bn bc, .slice KA kn kc, .int .i64 torn, .int .i64 cut] 46)).cell? ⟨w.heap.size, 4, none⟩ = some (.slice KA kn kc) ∧ (w.alloc (.cells #[.int .i64 2, .int .i64 i, .int .i64 n, .slice BA bn bc, .slice KA kn kc, .int .i64 torn, .int .i64 cut] 46)).cell? ⟨w.heap.size, 5, none⟩ = some (.int .i64 torn) ∧ (w.alloc (.cells #[.int .i64 2, .int .i64 i, .int .i64 n, .slice BA bn bc, .slice KA kn kc, .int .i64 torn, .int .i64 cut] 46)).cell? ⟨w.heap.size, 6, none⟩ = some (.int .i64 cut) from ⟨x1, x2, x3, x4, x5, x6⟩)
  have HBO := Lib.hid (both_write (HD.out.below (Below.refl _ (w.alloc (.cells #[.int .i64 2, .int .i64 i, .int .i64 n, .slice BA bn bc, .slice KA kn kc, .int .i64 torn, .int .i64 cut] 46))).drew) BA bn bc l (HB.out.below (Below.refl _ (w.alloc (.cells #[.int .i64 2, .int .i64 i, .int .i64 n, .slice BA bn bc, .slice KA kn kc, .int .i64 torn, .int .i64 cut] 46))).drew) HBA.out i hi hc)
  clear h hb0 hq0 hns hB hK hBA hKA
  go_enter Try.func21, Try.ntmps21
  go_wp2
  have hw : ∀ w1 : World, Touch b.S (w.alloc (.cells #[.int .i64 2, .int .i64 i, .int .i64 n, .slice BA bn bc, .slice KA kn kc, .int .i64 torn, .int .i64 cut] 46)).drew w1 → w1.cell? ⟨w.heap.size, 1, none⟩ = some (.int .i64 i) ∧ w1.cell? ⟨w.heap.size, 3, none⟩ = some (.slice BA bn bc) := fun w1 t => ⟨t.cell X.out.1 HNS.out, t.cell X.out.2.2.1 HNS.out⟩
  have HW := Lib.hid hw
  have HT1 := Lib.hid (HT0.out.trans (Touch.of_below (S := b.S) (Below.refl _ (w.alloc (.cells #[.int .i64 2, .int .i64 i, .int .i64 n, .slice BA bn bc, .slice KA kn kc, .int .i64 torn, .int .i64 cut] 46))).drew))
  clear hw HT0 HK HB HD X
  clear x2 x4 x5 x6
  generalize (w.alloc (.cells #[.int .i64 2, .int .i64 i, .int .i64 n, .slice BA bn bc, .slice KA kn kc, .int .i64 torn, .int .i64 cut] 46)) = w0 at x1 x3 HW HT1 HBO ⊢
  generalize Value.slice BA bn bc = vb at x3 HW HBO ⊢
  generalize Value.slice KA kn kc = vk at ⊢
  have hS0 : w0.drew.cell? ⟨w.heap.size, 1, none⟩ = some (.int .i64 i) ∧ w0.drew.cell? ⟨w.heap.size, 3, none⟩ = some vb := ⟨x1, x3⟩
  clear x1 x3
  go_region_held3 (fun w' => w'.cell? ⟨w.heap.size, 1, none⟩ = some (.int .i64 i) ∧ w'.cell? ⟨w.heap.size, 3, none⟩ = some vb) (first | assumption | simp only [*, and_self])
    (first
    | (go_at_call 27; refine HBO.out.mono ?_; rintro e w1 ⟨z, rfl, t1, hg⟩; have HG := Lib.hid hg; have HTT := Lib.hid (HT1.out.trans t1); have hS1 := HW.out w1 t1; clear hg t1)
    | (go_at_call 56; refine HG.out.mono ?_; rintro e w2 ⟨rfl, t2, k', c', hd', hc'⟩; have HD' := Lib.hid hd'; have HC' := Lib.hid hc'; have HTE := Lib.hid (HT1.out.trans t2); have hS2 := HW.out w2 t2; clear hd' hc' t2))
  all_goals
    go_wp2
    go_ret
    exact ⟨rfl, HTE.out, _, _, HD'.out, HC'.out⟩
set_option maxHeartbeats 2000000 in
theorem step_spoil (h : Duo w B b c k) (i n torn cut : Int) (BA KA : Option Addr) (bn bc kn kc : Nat) (l : List UInt8) (keep : List Bool) (hi : I64 i) (hn : I64 n) (hB : Bs w BA bn bc l) (hK : Rd w 1 KA kn kc (keep.map Value.bool)) (hBA : 0 < bn → ∀ ad, BA = some ad → ad.block < B) (hKA : 0 < kn → ∀ ad, KA = some ad → ad.block < B) (hc : c + 65537 < 1099511627776) :
    Calls Try.prog 21 #[.pointer (some ⟨b.d, 0, none⟩), .pointer (some ⟨b.r, 0, none⟩), .agg #[.int .i64 5, .int .i64 i, .int .i64 n, .slice BA bn bc, .slice KA kn kc, .int .i64 torn, .int .i64 cut]] w (RetStep w B b c) := by
  have hb0 : Below w.heap.size w (w.alloc (.cells #[.int .i64 5, .int .i64 i, .int .i64 n, .slice BA bn bc, .slice KA kn kc, .int .i64 torn, .int .i64 cut] 46)) := (Below.refl _ w).alloc (Nat.le_refl _) _
  have hq0 := blk_new w (.cells #[.int .i64 5, .int .i64 i, .int .i64 n, .slice BA bn bc, .slice KA kn kc, .int .i64 torn, .int .i64 cut] 46)
  have HD := Lib.hid (h.below hb0)
  have hns : ¬ b.S w.heap.size := fun hs => by have := h.lt _ hs; omega
  have HNS := Lib.hid hns
  have HT0 := Lib.hid (Touch.of_below (S := b.S) hb0)
  have HB := Lib.hid (hB.below hb0)
  have HK := Lib.hid (hK.below hb0)
  have HBA := Lib.hid hBA
  have HKA := Lib.hid hKA
  have x1 : (w.alloc (.cells #[.int .i64 5, .int .i64 i, .int .i64 n, .slice BA bn bc, .slice KA kn kc, .int .i64 torn, .int .i64 cut] 46)).cell? ⟨w.heap.size, 1, none⟩ = some (.int .i64 i) := blk_cell hq0 1
  have x2 : (w.alloc (.cells #[.int .i64 5, .int .i64 i, .int .i64 n, .slice BA bn bc, .slice KA kn kc, .int .i64 torn, .int .i64 cut] 46)).cell? ⟨w.heap.size, 2, none⟩ = some (.int .i64 n) := blk_cell hq0 2
  have x3 : (w.alloc (.cells #[.int .i64 5, .int .i64 i, .int .i64 n, .slice BA bn bc, .slice KA kn kc, .int .i64 torn, .int .i64 cut] 46)).cell? ⟨w.heap.size, 3, none⟩ = some (.slice BA bn bc) := blk_cell hq0 3
  have x4 : (w.alloc (.cells #[.int .i64 5, .int .i64 i, .int .i64 n, .slice BA bn bc, .slice KA kn kc, .int .i64 torn, .int .i64 cut] 46)).cell? ⟨w.heap.size, 4, none⟩ = some (.slice KA kn kc) := blk_cell hq0 4
  have x5 : (w.alloc (.cells #[.int .i64 5, .int .i64 i, .int .i64 n, .slice BA bn bc, .slice KA kn kc, .int .i64 torn, .int .i64 cut] 46)).cell? ⟨w.heap.size, 5, none⟩ = some (.int .i64 torn) := blk_cell hq0 5
  have x6 : (w.alloc (.cells #[.int .i64 5, .int .i64 i, .int .i64 n, .slice BA bn bc, .slice KA kn kc, .int .i64 torn, .int .i64 cut] 46)).cell? ⟨w.heap.size, 6, none⟩ = some (.int .i64 cut) := blk_cell hq0 6
  have X := Lib.hid (show (w.alloc (.cells #[.int .i64 5, .int .i64 i, .int .i64 n, .slice BA bn bc, .slice KA kn kc, .int .i64 torn, .int .i64 cut] 46)).cell? ⟨w.heap.size, 1, none⟩ = some (.int .i64 i) ∧ (w.alloc (.cells #[.int .i64 5, .int .i64 i, .int .i64 n, .slice BA bn bc, .slice KA kn kc, .int .i64 torn, .int .i64 cut] 46)).cell? ⟨w.heap.size, 2, none⟩ = some (.int .i64 n) ∧ (w.alloc (.cells #[.int .i64 5, .int .i64 i, .int .i64 n, .slice BA bn bc, .slice KA kn kc, .int .i64 torn, .int .i64 cut] 46)).cell? ⟨w.heap.size, 3, none⟩ = some (.slice BA bn bc) ∧ (w.alloc (.cells #[.int .i64 5, .int .i64 i, .int .i64 n, .slice BA bn bc, .slice KA kn kc, .int .i64 torn, .int .i64 cut] 46)).cell? ⟨w.heap.size, 4, none⟩ = some (.slice KA kn kc) ∧ (w.alloc (.cells #[.int .i64 5, .int .i64 i, .int .i64 n, .slice BA bn bc, .slice KA kn kc, .int .i64 torn, .int .i64 cut] 46)).cell? ⟨w.heap.size, 5, none⟩ = some (.int .i64 torn) ∧ (w.alloc (.cells #[.int .i64 5, .int .i64 i, .int .i64 n, .slice BA bn bc, .slice KA kn kc, .int .i64 torn, .int .i64 cut] 46)).cell? ⟨w.heap.size, 6, none⟩ = some (.int .i64 cut) from ⟨x1, x2, x3, x4, x5, x6⟩)
  have HBO := Lib.hid (both_spoil (HD.out.below (Below.refl _ (w.alloc (.cells #[.int .i64 5, .int .i64 i, .int .i64 n, .slice BA bn bc, .slice KA kn kc, .int .i64 torn, .int .i64 cut] 46))).drew) BA bn bc l (HB.out.below (Below.refl _ (w.alloc (.cells #[.int .i64 5, .int .i64 i, .int .i64 n, .slice BA bn bc, .slice KA kn kc, .int .i64 torn, .int .i64 cut] 46))).drew) HBA.out i)
  clear h hb0 hq0 hns hB hK hBA hKA
  go_enter Try.func21, Try.ntmps21
  go_wp2
  have hw : ∀ w1 : World, Touch b.S (w.alloc (.cells #[.int .i64 5, .int .i64 i, .int .i64 n, .slice BA bn bc, .slice KA kn kc, .int .i64 torn, .int .i64 cut] 46)).drew w1 → w1.cell? ⟨w.heap.size, 1, none⟩ = some (.int .i64 i) ∧ w1.cell? ⟨w.heap.size, 3, none⟩ = some (.slice BA bn bc) := fun w1 t => ⟨t.cell X.out.1 HNS.out, t.cell X.out.2.2.1 HNS.out⟩
  have HW := Lib.hid hw
  have HT1 := Lib.hid (HT0.out.trans (Touch.of_below (S := b.S) (Below.refl _ (w.alloc (.cells #[.int .i64 5, .int .i64 i, .int .i64 n, .slice BA bn bc, .slice KA kn kc, .int .i64 torn, .int .i64 cut] 46))).drew))
  clear hw HT0 HK HB HD X
  clear x2 x4 x5 x6
  generalize (w.alloc (.cells #[.int .i64 5, .int .i64 i, .int .i64 n, .slice BA bn bc, .slice KA kn kc, .int .i64 torn, .int .i64 cut] 46)) = w0 at x1 x3 HW HT1 HBO ⊢
  generalize Value.slice BA bn bc = vb at x3 HW HBO ⊢
  generalize Value.slice KA kn kc = vk at ⊢
  have hS0 : w0.drew.cell? ⟨w.heap.size, 1, none⟩ = some (.int .i64 i) ∧ w0.drew.cell? ⟨w.heap.size, 3, none⟩ = some vb := ⟨x1, x3⟩
  clear x1 x3
  go_region_held3 (fun w' => w'.cell? ⟨w.heap.size, 1, none⟩ = some (.int .i64 i) ∧ w'.cell? ⟨w.heap.size, 3, none⟩ = some vb) (first | assumption | simp only [*, and_self])
    (first
    | (go_at_call 33; refine HBO.out.mono ?_; rintro e w1 ⟨z, rfl, t1, hg⟩; have HG := Lib.hid hg; have HTT := Lib.hid (HT1.out.trans t1); have hS1 := HW.out w1 t1; clear hg t1)
    | (go_at_call 59; refine HG.out.mono ?_; rintro e w2 ⟨rfl, t2, k', c', hd', hc'⟩; have HD' := Lib.hid hd'; have HC' := Lib.hid hc'; have HTE := Lib.hid (HT1.out.trans t2); have hS2 := HW.out w2 t2; clear hd' hc' t2))
  all_goals
    go_wp2
    go_ret
    exact ⟨rfl, HTE.out, _, _, HD'.out, HC'.out⟩
set_option maxHeartbeats 2000000 in
theorem step_bad (h : Duo w B b c k) (i n torn cut : Int) (BA KA : Option Addr) (bn bc kn kc : Nat) (l : List UInt8) (keep : List Bool) (hi : I64 i) (hn : I64 n) (hB : Bs w BA bn bc l) (hK : Rd w 1 KA kn kc (keep.map Value.bool)) (hBA : 0 < bn → ∀ ad, BA = some ad → ad.block < B) (hKA : 0 < kn → ∀ ad, KA = some ad → ad.block < B) (hc : c + 65537 < 1099511627776) :
    Calls Try.prog 21 #[.pointer (some ⟨b.d, 0, none⟩), .pointer (some ⟨b.r, 0, none⟩), .agg #[.int .i64 6, .int .i64 i, .int .i64 n, .slice BA bn bc, .slice KA kn kc, .int .i64 torn, .int .i64 cut]] w (RetStep w B b c) := by
  have hb0 : Below w.heap.size w (w.alloc (.cells #[.int .i64 6, .int .i64 i, .int .i64 n, .slice BA bn bc, .slice KA kn kc, .int .i64 torn, .int .i64 cut] 46)) := (Below.refl _ w).alloc (Nat.le_refl _) _
  have hq0 := blk_new w (.cells #[.int .i64 6, .int .i64 i, .int .i64 n, .slice BA bn bc, .slice KA kn kc, .int .i64 torn, .int .i64 cut] 46)
  have HD := Lib.hid (h.below hb0)
  have hns : ¬ b.S w.heap.size := fun hs => by have := h.lt _ hs; omega
  have HNS := Lib.hid hns
  have HT0 := Lib.hid (Touch.of_below (S := b.S) hb0)
  have HB := Lib.hid (hB.below hb0)
  have HK := Lib.hid (hK.below hb0)
  have HBA := Lib.hid hBA
  have HKA := Lib.hid hKA
  have x1 : (w.alloc (.cells #[.int .i64 6, .int .i64 i, .int .i64 n, .slice BA bn bc, .slice KA kn kc, .int .i64 torn, .int .i64 cut] 46)).cell? ⟨w.heap.size, 1, none⟩ = some (.int .i64 i) := blk_cell hq0 1
  have x2 : (w.alloc (.cells #[.int .i64 6, .int .i64 i, .int .i64 n, .slice BA bn bc, .slice KA kn kc, .int .i64 torn, .int .i64 cut] 46)).cell? ⟨w.heap.size, 2, none⟩ = some (.int .i64 n) := blk_cell hq0 2
  have x3 : (w.alloc (.cells #[.int .i64 6, .int .i64 i, .int .i64 n, .slice BA bn bc, .slice KA kn kc, .int .i64 torn, .int .i64 cut] 46)).cell? ⟨w.heap.size, 3, none⟩ = some (.slice BA bn bc) := blk_cell hq0 3
  have x4 : (w.alloc (.cells #[.int .i64 6, .int .i64 i, .int .i64 n, .slice BA bn bc, .slice KA kn kc, .int .i64 torn, .int .i64 cut] 46)).cell? ⟨w.heap.size, 4, none⟩ = some (.slice KA kn kc) := blk_cell hq0 4
  have x5 : (w.alloc (.cells #[.int .i64 6, .int .i64 i, .int .i64 n, .slice BA bn bc, .slice KA kn kc, .int .i64 torn, .int .i64 cut] 46)).cell? ⟨w.heap.size, 5, none⟩ = some (.int .i64 torn) := blk_cell hq0 5
  have x6 : (w.alloc (.cells #[.int .i64 6, .int .i64 i, .int .i64 n, .slice BA bn bc, .slice KA kn kc, .int .i64 torn, .int .i64 cut] 46)).cell? ⟨w.heap.size, 6, none⟩ = some (.int .i64 cut) := blk_cell hq0 6
  have X := Lib.hid (show (w.alloc (.cells #[.int .i64 6, .int .i64 i, .int .i64 n, .slice BA bn bc, .slice KA kn kc, .int .i64 torn, .int .i64 cut] 46)).cell? ⟨w.heap.size, 1, none⟩ = some (.int .i64 i) ∧ (w.alloc (.cells #[.int .i64 6, .int .i64 i, .int .i64 n, .slice BA bn bc, .slice KA kn kc, .int .i64 torn, .int .i64 cut] 46)).cell? ⟨w.heap.size, 2, none⟩ = some (.int .i64 n) ∧ (w.alloc (.cells #[.int .i64 6, .int .i64 i, .int .i64 n, .slice BA bn bc, .slice KA kn kc, .int .i64 torn, .int .i64 cut] 46)).cell? ⟨w.heap.size, 3, none⟩ = some (.slice BA bn bc) ∧ (w.alloc (.cells #[.int .i64 6, .int .i64 i, .int .i64 n, .slice BA bn bc, .slice KA kn kc, .int .i64 torn, .int .i64 cut] 46)).cell? ⟨w.heap.size, 4, none⟩ = some (.slice KA kn kc) ∧ (w.alloc (.cells #[.int .i64 6, .int .i64 i, .int .i64 n, .slice BA bn bc, .slice KA kn kc, .int .i64 torn, .int .i64 cut] 46)).cell? ⟨w.heap.size, 5, none⟩ = some (.int .i64 torn) ∧ (w.alloc (.cells #[.int .i64 6, .int .i64 i, .int .i64 n, .slice BA bn bc, .slice KA kn kc, .int .i64 torn, .int .i64 cut] 46)).cell? ⟨w.heap.size, 6, none⟩ = some (.int .i64 cut) from ⟨x1, x2, x3, x4, x5, x6⟩)
  have HBO := Lib.hid (both_bad (HD.out.below (Below.refl _ (w.alloc (.cells #[.int .i64 6, .int .i64 i, .int .i64 n, .slice BA bn bc, .slice KA kn kc, .int .i64 torn, .int .i64 cut] 46))).drew) i hc)
  clear h hb0 hq0 hns hB hK hBA hKA
  go_enter Try.func21, Try.ntmps21
  go_wp2
  have hw : ∀ w1 : World, Touch b.S (w.alloc (.cells #[.int .i64 6, .int .i64 i, .int .i64 n, .slice BA bn bc, .slice KA kn kc, .int .i64 torn, .int .i64 cut] 46)).drew w1 → w1.cell? ⟨w.heap.size, 1, none⟩ = some (.int .i64 i) ∧ w1.cell? ⟨w.heap.size, 3, none⟩ = some (.slice BA bn bc) := fun w1 t => ⟨t.cell X.out.1 HNS.out, t.cell X.out.2.2.1 HNS.out⟩
  have HW := Lib.hid hw
  have HT1 := Lib.hid (HT0.out.trans (Touch.of_below (S := b.S) (Below.refl _ (w.alloc (.cells #[.int .i64 6, .int .i64 i, .int .i64 n, .slice BA bn bc, .slice KA kn kc, .int .i64 torn, .int .i64 cut] 46))).drew))
  clear hw HT0 HK HB HD X
  clear x2 x4 x5 x6
  generalize (w.alloc (.cells #[.int .i64 6, .int .i64 i, .int .i64 n, .slice BA bn bc, .slice KA kn kc, .int .i64 torn, .int .i64 cut] 46)) = w0 at x1 x3 HW HT1 HBO ⊢
  generalize Value.slice BA bn bc = vb at x3 HW HBO ⊢
  generalize Value.slice KA kn kc = vk at ⊢
  have hS0 : w0.drew.cell? ⟨w.heap.size, 1, none⟩ = some (.int .i64 i) ∧ w0.drew.cell? ⟨w.heap.size, 3, none⟩ = some vb := ⟨x1, x3⟩
  clear x1 x3
  go_region_held3 (fun w' => w'.cell? ⟨w.heap.size, 1, none⟩ = some (.int .i64 i) ∧ w'.cell? ⟨w.heap.size, 3, none⟩ = some vb) (first | assumption | simp only [*, and_self])
    (first
    | (go_at_call 34; refine HBO.out.mono ?_; rintro e w1 ⟨z, rfl, t1, hg⟩; have HG := Lib.hid hg; have HTT := Lib.hid (HT1.out.trans t1); have hS1 := HW.out w1 t1; clear hg t1)
    | (go_at_call 60; refine HG.out.mono ?_; rintro e w2 ⟨rfl, t2, k', c', hd', hc'⟩; have HD' := Lib.hid hd'; have HC' := Lib.hid hc'; have HTE := Lib.hid (HT1.out.trans t2); have hS2 := HW.out w2 t2; clear hd' hc' t2))
  all_goals
    go_wp2
    go_ret
    exact ⟨rfl, HTE.out, _, _, HD'.out, HC'.out⟩
end
end Go.Proofs.Ytaldjmhikebecaa
