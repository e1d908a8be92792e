/- Layer 8 (sector): a call of both (the law's step), more. -/
import Derived.Test.YtaldjmhikebecaaStepA
namespace Go.Proofs.Ytaldjmhikebecaa
open Go Go.RowKit
set_option maxRecDepth 100000
set_option linter.unusedVariables false
attribute [local go_sem] Oper.semAt_some
section
variable {w w' : World} {B c : Nat} {b : Bk} {k : Dsk}
set_option maxHeartbeats 2000000 in
theorem step_barrier (h : Duo w B b c k) (i n torn cut : Int) (BA KA : Option Addr) (bn bc kn kc : Nat) (l : List UInt8) (keep : List Bool) (hi : I64 i) (hn : I64 n) (hB : Bs w BA bn bc l) (hK : Rd w 1 KA kn kc (keep.map Value.bool)) (hBA : 0 < bn → ∀ ad, BA = some ad → ad.block < B) (hKA : 0 < kn → ∀ ad, KA = some ad → ad.block < B) (hc : c + 65537 < 1099511627776) :
    Calls Try.prog 21 #[.pointer (some ⟨b.d, 0, none⟩), .pointer (some ⟨b.r, 0, none⟩), .agg #[.int .i64 3, .int .i64 i, .int .i64 n, .slice BA bn bc, .slice KA kn kc, .int .i64 torn, .int .i64 cut]] w (RetStep w B b c) := by
  have hb0 : Below w.heap.size w (w.alloc (.cells #[.int .i64 3, .int .i64 i, .int .i64 n, .slice BA bn bc, .slice KA kn kc, .int .i64 torn, .int .i64 cut] 46)) := (Below.refl _ w).alloc (Nat.le_refl _) _
  have hq0 := blk_new w (.cells #[.int .i64 3, .int .i64 i, .int .i64 n, .slice BA bn bc, .slice KA kn kc, .int .i64 torn, .int .i64 cut] 46)
  have HD := Lib.hid (h.below hb0)
  have hns : ¬ b.S w.heap.size := fun hs => by have := h.lt _ hs; omega
  have HNS := Lib.hid hns
  have HT0 := Lib.hid (Touch.of_below (S := b.S) hb0)
  have HB := Lib.hid (hB.below hb0)
  have HK := Lib.hid (hK.below hb0)
  have HBA := Lib.hid hBA
  have HKA := Lib.hid hKA
  have x1 : (w.alloc (.cells #[.int .i64 3, .int .i64 i, .int .i64 n, .slice BA bn bc, .slice KA kn kc, .int .i64 torn, .int .i64 cut] 46)).cell? ⟨w.heap.size, 1, none⟩ = some (.int .i64 i) := blk_cell hq0 1
  have x2 : (w.alloc (.cells #[.int .i64 3, .int .i64 i, .int .i64 n, .slice BA bn bc, .slice KA kn kc, .int .i64 torn, .int .i64 cut] 46)).cell? ⟨w.heap.size, 2, none⟩ = some (.int .i64 n) := blk_cell hq0 2
  have x3 : (w.alloc (.cells #[.int .i64 3, .int .i64 i, .int .i64 n, .slice BA bn bc, .slice KA kn kc, .int .i64 torn, .int .i64 cut] 46)).cell? ⟨w.heap.size, 3, none⟩ = some (.slice BA bn bc) := blk_cell hq0 3
  have x4 : (w.alloc (.cells #[.int .i64 3, .int .i64 i, .int .i64 n, .slice BA bn bc, .slice KA kn kc, .int .i64 torn, .int .i64 cut] 46)).cell? ⟨w.heap.size, 4, none⟩ = some (.slice KA kn kc) := blk_cell hq0 4
  have x5 : (w.alloc (.cells #[.int .i64 3, .int .i64 i, .int .i64 n, .slice BA bn bc, .slice KA kn kc, .int .i64 torn, .int .i64 cut] 46)).cell? ⟨w.heap.size, 5, none⟩ = some (.int .i64 torn) := blk_cell hq0 5
  have x6 : (w.alloc (.cells #[.int .i64 3, .int .i64 i, .int .i64 n, .slice BA bn bc, .slice KA kn kc, .int .i64 torn, .int .i64 cut] 46)).cell? ⟨w.heap.size, 6, none⟩ = some (.int .i64 cut) := blk_cell hq0 6
  have X := Lib.hid (show (w.alloc (.cells #[.int .i64 3, .int .i64 i, .int .i64 n, .slice BA bn bc, .slice KA kn kc, .int .i64 torn, .int .i64 cut] 46)).cell? ⟨w.heap.size, 1, none⟩ = some (.int .i64 i) ∧ (w.alloc (.cells #[.int .i64 3, .int .i64 i, .int .i64 n, .slice BA bn bc, .slice KA kn kc, .int .i64 torn, .int .i64 cut] 46)).cell? ⟨w.heap.size, 2, none⟩ = some (.int .i64 n) ∧ (w.alloc (.cells #[.int .i64 3, .int .i64 i, .int .i64 n, .slice BA bn bc, .slice KA kn kc, .int .i64 torn, .int .i64 cut] 46)).cell? ⟨w.heap.size, 3, none⟩ = some (.slice BA bn bc) ∧ (w.alloc (.cells #[.int .i64 3, .int .i64 i, .int .i64 n, .slice BA bn bc, .slice KA kn kc, .int .i64 torn, .int .i64 cut] 46)).cell? ⟨w.heap.size, 4, none⟩ = some (.slice KA kn kc) ∧ (w.alloc (.cells #[.int .i64 3, .int .i64 i, .int .i64 n, .slice BA bn bc, .slice KA kn kc, .int .i64 torn, .int .i64 cut] 46)).cell? ⟨w.heap.size, 5, none⟩ = some (.int .i64 torn) ∧ (w.alloc (.cells #[.int .i64 3, .int .i64 i, .int .i64 n, .slice BA bn bc, .slice KA kn kc, .int .i64 torn, .int .i64 cut] 46)).cell? ⟨w.heap.size, 6, none⟩ = some (.int .i64 cut) from ⟨x1, x2, x3, x4, x5, x6⟩)
  have HBO := Lib.hid (both_barrier HD.out)
  clear h hb0 hq0 hns hB hK hBA hKA
  go_enter Try.func21, Try.ntmps21
  go_wp2_with (first
    | (go_at_call 25; go_must (refine HBO.out.mono ?_; rintro e w1 ⟨z, rfl, t1, hg⟩; have HG := Lib.hid hg; have HTT := Lib.hid (HT0.out.trans t1); clear hg t1 x1 x2 x3 x4 x5 x6))
    | (go_at_call 57; go_must (refine HG.out.mono ?_; rintro e w2 ⟨rfl, t2, k', c', hd', hc'⟩; have HD' := Lib.hid hd'; have HC' := Lib.hid hc'; have HTE := Lib.hid (HT0.out.trans t2); clear hd' hc' t2)))
  go_ret
  exact ⟨rfl, HTE.out, _, _, HD'.out, HC'.out⟩
set_option maxHeartbeats 2000000 in
theorem step_crash (h : Duo w B b c k) (i n torn cut : Int) (BA KA : Option Addr) (bn bc kn kc : Nat) (l : List UInt8) (keep : List Bool) (hi : I64 i) (hn : I64 n) (hB : Bs w BA bn bc l) (hK : Rd w 1 KA kn kc (keep.map Value.bool)) (hBA : 0 < bn → ∀ ad, BA = some ad → ad.block < B) (hKA : 0 < kn → ∀ ad, KA = some ad → ad.block < B) (hc : c + 65537 < 1099511627776) :
    Calls Try.prog 21 #[.pointer (some ⟨b.d, 0, none⟩), .pointer (some ⟨b.r, 0, none⟩), .agg #[.int .i64 4, .int .i64 i, .int .i64 n, .slice BA bn bc, .slice KA kn kc, .int .i64 torn, .int .i64 cut]] w (RetStep w B b c) := by
  have hb0 : Below w.heap.size w (w.alloc (.cells #[.int .i64 4, .int .i64 i, .int .i64 n, .slice BA bn bc, .slice KA kn kc, .int .i64 torn, .int .i64 cut] 46)) := (Below.refl _ w).alloc (Nat.le_refl _) _
  have hq0 := blk_new w (.cells #[.int .i64 4, .int .i64 i, .int .i64 n, .slice BA bn bc, .slice KA kn kc, .int .i64 torn, .int .i64 cut] 46)
  have HD := Lib.hid (h.below hb0)
  have hns : ¬ b.S w.heap.size := fun hs => by have := h.lt _ hs; omega
  have HNS := Lib.hid hns
  have HT0 := Lib.hid (Touch.of_below (S := b.S) hb0)
  have HB := Lib.hid (hB.below hb0)
  have HK := Lib.hid (hK.below hb0)
  have HBA := Lib.hid hBA
  have HKA := Lib.hid hKA
  have x1 : (w.alloc (.cells #[.int .i64 4, .int .i64 i, .int .i64 n, .slice BA bn bc, .slice KA kn kc, .int .i64 torn, .int .i64 cut] 46)).cell? ⟨w.heap.size, 1, none⟩ = some (.int .i64 i) := blk_cell hq0 1
  have x2 : (w.alloc (.cells #[.int .i64 4, .int .i64 i, .int .i64 n, .slice BA bn bc, .slice KA kn kc, .int .i64 torn, .int .i64 cut] 46)).cell? ⟨w.heap.size, 2, none⟩ = some (.int .i64 n) := blk_cell hq0 2
  have x3 : (w.alloc (.cells #[.int .i64 4, .int .i64 i, .int .i64 n, .slice BA bn bc, .slice KA kn kc, .int .i64 torn, .int .i64 cut] 46)).cell? ⟨w.heap.size, 3, none⟩ = some (.slice BA bn bc) := blk_cell hq0 3
  have x4 : (w.alloc (.cells #[.int .i64 4, .int .i64 i, .int .i64 n, .slice BA bn bc, .slice KA kn kc, .int .i64 torn, .int .i64 cut] 46)).cell? ⟨w.heap.size, 4, none⟩ = some (.slice KA kn kc) := blk_cell hq0 4
  have x5 : (w.alloc (.cells #[.int .i64 4, .int .i64 i, .int .i64 n, .slice BA bn bc, .slice KA kn kc, .int .i64 torn, .int .i64 cut] 46)).cell? ⟨w.heap.size, 5, none⟩ = some (.int .i64 torn) := blk_cell hq0 5
  have x6 : (w.alloc (.cells #[.int .i64 4, .int .i64 i, .int .i64 n, .slice BA bn bc, .slice KA kn kc, .int .i64 torn, .int .i64 cut] 46)).cell? ⟨w.heap.size, 6, none⟩ = some (.int .i64 cut) := blk_cell hq0 6
  have X := Lib.hid (show (w.alloc (.cells #[.int .i64 4, .int .i64 i, .int .i64 n, .slice BA bn bc, .slice KA kn kc, .int .i64 torn, .int .i64 cut] 46)).cell? ⟨w.heap.size, 1, none⟩ = some (.int .i64 i) ∧ (w.alloc (.cells #[.int .i64 4, .int .i64 i, .int .i64 n, .slice BA bn bc, .slice KA kn kc, .int .i64 torn, .int .i64 cut] 46)).cell? ⟨w.heap.size, 2, none⟩ = some (.int .i64 n) ∧ (w.alloc (.cells #[.int .i64 4, .int .i64 i, .int .i64 n, .slice BA bn bc, .slice KA kn kc, .int .i64 torn, .int .i64 cut] 46)).cell? ⟨w.heap.size, 3, none⟩ = some (.slice BA bn bc) ∧ (w.alloc (.cells #[.int .i64 4, .int .i64 i, .int .i64 n, .slice BA bn bc, .slice KA kn kc, .int .i64 torn, .int .i64 cut] 46)).cell? ⟨w.heap.size, 4, none⟩ = some (.slice KA kn kc) ∧ (w.alloc (.cells #[.int .i64 4, .int .i64 i, .int .i64 n, .slice BA bn bc, .slice KA kn kc, .int .i64 torn, .int .i64 cut] 46)).cell? ⟨w.heap.size, 5, none⟩ = some (.int .i64 torn) ∧ (w.alloc (.cells #[.int .i64 4, .int .i64 i, .int .i64 n, .slice BA bn bc, .slice KA kn kc, .int .i64 torn, .int .i64 cut] 46)).cell? ⟨w.heap.size, 6, none⟩ = some (.int .i64 cut) from ⟨x1, x2, x3, x4, x5, x6⟩)
  have HBO := Lib.hid (both_crash HD.out KA kn kc keep torn cut HK.out HKA.out)
  clear h hb0 hq0 hns hB hK hBA hKA
  go_enter Try.func21, Try.ntmps21
  have hw : ∀ w1 : World, Touch b.S (w.alloc (.cells #[.int .i64 4, .int .i64 i, .int .i64 n, .slice BA bn bc, .slice KA kn kc, .int .i64 torn, .int .i64 cut] 46)) w1 → w1.cell? ⟨w.heap.size, 2, none⟩ = some (.int .i64 n) ∧ w1.cell? ⟨w.heap.size, 4, none⟩ = some (.slice KA kn kc) ∧ w1.cell? ⟨w.heap.size, 5, none⟩ = some (.int .i64 torn) ∧ w1.cell? ⟨w.heap.size, 6, none⟩ = some (.int .i64 cut) := fun w1 t => ⟨t.cell X.out.2.1 HNS.out, t.cell X.out.2.2.2.1 HNS.out, t.cell X.out.2.2.2.2.1 HNS.out, t.cell X.out.2.2.2.2.2 HNS.out⟩
  have HW := Lib.hid hw
  clear hw
  go_wp2_with (first
    | (go_at_call 58; go_must (refine HBO.out.mono ?_; rintro e w1 ⟨⟨v, rfl⟩, t1, hg⟩; have HG := Lib.hid hg; have HTT := Lib.hid (HT0.out.trans t1); obtain ⟨y2, y4, y5, y6⟩ := HW.out w1 t1; clear hg t1 x1 x2 x3 x4 x5 x6))
    | (go_at_call 29; go_must (refine HG.out.mono ?_; rintro e w2 ⟨rfl, t2, k', c', hd', hc'⟩; have HD' := Lib.hid hd'; have HC' := Lib.hid hc'; have HTE := Lib.hid (HT0.out.trans t2); clear hd' hc' t2)))
  go_ret
  exact ⟨rfl, HTE.out, _, _, HD'.out, HC'.out⟩
set_option maxHeartbeats 2000000 in
theorem step_fuse (h : Duo w B b c k) (i n torn cut : Int) (BA KA : Option Addr) (bn bc kn kc : Nat) (l : List UInt8) (keep : List Bool) (hi : I64 i) (hn : I64 n) (hB : Bs w BA bn bc l) (hK : Rd w 1 KA kn kc (keep.map Value.bool)) (hBA : 0 < bn → ∀ ad, BA = some ad → ad.block < B) (hKA : 0 < kn → ∀ ad, KA = some ad → ad.block < B) (hc : c + 65537 < 1099511627776) :
    Calls Try.prog 21 #[.pointer (some ⟨b.d, 0, none⟩), .pointer (some ⟨b.r, 0, none⟩), .agg #[.int .i64 8, .int .i64 i, .int .i64 n, .slice BA bn bc, .slice KA kn kc, .int .i64 torn, .int .i64 cut]] w (RetStep w B b c) := by
  have hb0 : Below w.heap.size w (w.alloc (.cells #[.int .i64 8, .int .i64 i, .int .i64 n, .slice BA bn bc, .slice KA kn kc, .int .i64 torn, .int .i64 cut] 46)) := (Below.refl _ w).alloc (Nat.le_refl _) _
  have hq0 := blk_new w (.cells #[.int .i64 8, .int .i64 i, .int .i64 n, .slice BA bn bc, .slice KA kn kc, .int .i64 torn, .int .i64 cut] 46)
  have HD := Lib.hid (h.below hb0)
  have hns : ¬ b.S w.heap.size := fun hs => by have := h.lt _ hs; omega
  have HNS := Lib.hid hns
  have HT0 := Lib.hid (Touch.of_below (S := b.S) hb0)
  have HB := Lib.hid (hB.below hb0)
  have HK := Lib.hid (hK.below hb0)
  have HBA := Lib.hid hBA
  have HKA := Lib.hid hKA
  have x1 : (w.alloc (.cells #[.int .i64 8, .int .i64 i, .int .i64 n, .slice BA bn bc, .slice KA kn kc, .int .i64 torn, .int .i64 cut] 46)).cell? ⟨w.heap.size, 1, none⟩ = some (.int .i64 i) := blk_cell hq0 1
  have x2 : (w.alloc (.cells #[.int .i64 8, .int .i64 i, .int .i64 n, .slice BA bn bc, .slice KA kn kc, .int .i64 torn, .int .i64 cut] 46)).cell? ⟨w.heap.size, 2, none⟩ = some (.int .i64 n) := blk_cell hq0 2
  have x3 : (w.alloc (.cells #[.int .i64 8, .int .i64 i, .int .i64 n, .slice BA bn bc, .slice KA kn kc, .int .i64 torn, .int .i64 cut] 46)).cell? ⟨w.heap.size, 3, none⟩ = some (.slice BA bn bc) := blk_cell hq0 3
  have x4 : (w.alloc (.cells #[.int .i64 8, .int .i64 i, .int .i64 n, .slice BA bn bc, .slice KA kn kc, .int .i64 torn, .int .i64 cut] 46)).cell? ⟨w.heap.size, 4, none⟩ = some (.slice KA kn kc) := blk_cell hq0 4
  have x5 : (w.alloc (.cells #[.int .i64 8, .int .i64 i, .int .i64 n, .slice BA bn bc, .slice KA kn kc, .int .i64 torn, .int .i64 cut] 46)).cell? ⟨w.heap.size, 5, none⟩ = some (.int .i64 torn) := blk_cell hq0 5
  have x6 : (w.alloc (.cells #[.int .i64 8, .int .i64 i, .int .i64 n, .slice BA bn bc, .slice KA kn kc, .int .i64 torn, .int .i64 cut] 46)).cell? ⟨w.heap.size, 6, none⟩ = some (.int .i64 cut) := blk_cell hq0 6
  have X := Lib.hid (show (w.alloc (.cells #[.int .i64 8, .int .i64 i, .int .i64 n, .slice BA bn bc, .slice KA kn kc, .int .i64 torn, .int .i64 cut] 46)).cell? ⟨w.heap.size, 1, none⟩ = some (.int .i64 i) ∧ (w.alloc (.cells #[.int .i64 8, .int .i64 i, .int .i64 n, .slice BA bn bc, .slice KA kn kc, .int .i64 torn, .int .i64 cut] 46)).cell? ⟨w.heap.size, 2, none⟩ = some (.int .i64 n) ∧ (w.alloc (.cells #[.int .i64 8, .int .i64 i, .int .i64 n, .slice BA bn bc, .slice KA kn kc, .int .i64 torn, .int .i64 cut] 46)).cell? ⟨w.heap.size, 3, none⟩ = some (.slice BA bn bc) ∧ (w.alloc (.cells #[.int .i64 8, .int .i64 i, .int .i64 n, .slice BA bn bc, .slice KA kn kc, .int .i64 torn, .int .i64 cut] 46)).cell? ⟨w.heap.size, 4, none⟩ = some (.slice KA kn kc) ∧ (w.alloc (.cells #[.int .i64 8, .int .i64 i, .int .i64 n, .slice BA bn bc, .slice KA kn kc, .int .i64 torn, .int .i64 cut] 46)).cell? ⟨w.heap.size, 5, none⟩ = some (.int .i64 torn) ∧ (w.alloc (.cells #[.int .i64 8, .int .i64 i, .int .i64 n, .slice BA bn bc, .slice KA kn kc, .int .i64 torn, .int .i64 cut] 46)).cell? ⟨w.heap.size, 6, none⟩ = some (.int .i64 cut) from ⟨x1, x2, x3, x4, x5, x6⟩)
  have HBO := Lib.hid (both_fuse HD.out n hn)
  clear h hb0 hq0 hns hB hK hBA hKA
  go_enter Try.func21, Try.ntmps21
  have hw : ∀ w1 : World, Touch b.S (w.alloc (.cells #[.int .i64 8, .int .i64 i, .int .i64 n, .slice BA bn bc, .slice KA kn kc, .int .i64 torn, .int .i64 cut] 46)) w1 → w1.cell? ⟨w.heap.size, 2, none⟩ = some (.int .i64 n) ∧ w1.cell? ⟨w.heap.size, 4, none⟩ = some (.slice KA kn kc) ∧ w1.cell? ⟨w.heap.size, 5, none⟩ = some (.int .i64 torn) ∧ w1.cell? ⟨w.heap.size, 6, none⟩ = some (.int .i64 cut) := fun w1 t => ⟨t.cell X.out.2.1 HNS.out, t.cell X.out.2.2.2.1 HNS.out, t.cell X.out.2.2.2.2.1 HNS.out, t.cell X.out.2.2.2.2.2 HNS.out⟩
  have HW := Lib.hid hw
  clear hw
  go_wp2_with (first
    | (go_at_call 61; go_must (refine HBO.out.mono ?_; rintro e w1 ⟨⟨v, rfl⟩, t1, hg⟩; have HG := Lib.hid hg; have HTT := Lib.hid (HT0.out.trans t1); obtain ⟨y2, y4, y5, y6⟩ := HW.out w1 t1; clear hg t1 x1 x2 x3 x4 x5 x6))
    | (go_at_call 24; go_must (refine HG.out.mono ?_; rintro e w2 ⟨rfl, t2, k', c', hd', hc'⟩; have HD' := Lib.hid hd'; have HC' := Lib.hid hc'; have HTE := Lib.hid (HT0.out.trans t2); clear hd' hc' t2)))
  go_ret
  exact ⟨rfl, HTE.out, _, _, HD'.out, HC'.out⟩
set_option maxHeartbeats 2000000 in
theorem step_loose (h : Duo w B b c k) (kd : Int) (h1 : kd ≠ 1) (h2 : kd ≠ 2) (h3 : kd ≠ 3) (h4 : kd ≠ 4) (h5 : kd ≠ 5) (h6 : kd ≠ 6) (h8 : kd ≠ 8) (i n torn cut : Int) (BA KA : Option Addr) (bn bc kn kc : Nat) (l : List UInt8) (keep : List Bool) (hi : I64 i) (hn : I64 n) (hB : Bs w BA bn bc l) (hK : Rd w 1 KA kn kc (keep.map Value.bool)) (hBA : 0 < bn → ∀ ad, BA = some ad → ad.block < B) (hKA : 0 < kn → ∀ ad, KA = some ad → ad.block < B) (hc : c + 65537 < 1099511627776) :
    Calls Try.prog 21 #[.pointer (some ⟨b.d, 0, none⟩), .pointer (some ⟨b.r, 0, none⟩), .agg #[.int .i64 kd, .int .i64 i, .int .i64 n, .slice BA bn bc, .slice KA kn kc, .int .i64 torn, .int .i64 cut]] w (RetStep w B b c) := by
  have hb0 : Below w.heap.size w (w.alloc (.cells #[.int .i64 kd, .int .i64 i, .int .i64 n, .slice BA bn bc, .slice KA kn kc, .int .i64 torn, .int .i64 cut] 46)) := (Below.refl _ w).alloc (Nat.le_refl _) _
  have hq0 := blk_new w (.cells #[.int .i64 kd, .int .i64 i, .int .i64 n, .slice BA bn bc, .slice KA kn kc, .int .i64 torn, .int .i64 cut] 46)
  have HD := Lib.hid (h.below hb0)
  have hns : ¬ b.S w.heap.size := fun hs => by have := h.lt _ hs; omega
  have HNS := Lib.hid hns
  have HT0 := Lib.hid (Touch.of_below (S := b.S) hb0)
  have HB := Lib.hid (hB.below hb0)
  have HK := Lib.hid (hK.below hb0)
  have HBA := Lib.hid hBA
  have HKA := Lib.hid hKA
  have x1 : (w.alloc (.cells #[.int .i64 kd, .int .i64 i, .int .i64 n, .slice BA bn bc, .slice KA kn kc, .int .i64 torn, .int .i64 cut] 46)).cell? ⟨w.heap.size, 1, none⟩ = some (.int .i64 i) := blk_cell hq0 1
  have x2 : (w.alloc (.cells #[.int .i64 kd, .int .i64 i, .int .i64 n, .slice BA bn bc, .slice KA kn kc, .int .i64 torn, .int .i64 cut] 46)).cell? ⟨w.heap.size, 2, none⟩ = some (.int .i64 n) := blk_cell hq0 2
  have x3 : (w.alloc (.cells #[.int .i64 kd, .int .i64 i, .int .i64 n, .slice BA bn bc, .slice KA kn kc, .int .i64 torn, .int .i64 cut] 46)).cell? ⟨w.heap.size, 3, none⟩ = some (.slice BA bn bc) := blk_cell hq0 3
  have x4 : (w.alloc (.cells #[.int .i64 kd, .int .i64 i, .int .i64 n, .slice BA bn bc, .slice KA kn kc, .int .i64 torn, .int .i64 cut] 46)).cell? ⟨w.heap.size, 4, none⟩ = some (.slice KA kn kc) := blk_cell hq0 4
  have x5 : (w.alloc (.cells #[.int .i64 kd, .int .i64 i, .int .i64 n, .slice BA bn bc, .slice KA kn kc, .int .i64 torn, .int .i64 cut] 46)).cell? ⟨w.heap.size, 5, none⟩ = some (.int .i64 torn) := blk_cell hq0 5
  have x6 : (w.alloc (.cells #[.int .i64 kd, .int .i64 i, .int .i64 n, .slice BA bn bc, .slice KA kn kc, .int .i64 torn, .int .i64 cut] 46)).cell? ⟨w.heap.size, 6, none⟩ = some (.int .i64 cut) := blk_cell hq0 6
  have X := Lib.hid (show (w.alloc (.cells #[.int .i64 kd, .int .i64 i, .int .i64 n, .slice BA bn bc, .slice KA kn kc, .int .i64 torn, .int .i64 cut] 46)).cell? ⟨w.heap.size, 1, none⟩ = some (.int .i64 i) ∧ (w.alloc (.cells #[.int .i64 kd, .int .i64 i, .int .i64 n, .slice BA bn bc, .slice KA kn kc, .int .i64 torn, .int .i64 cut] 46)).cell? ⟨w.heap.size, 2, none⟩ = some (.int .i64 n) ∧ (w.alloc (.cells #[.int .i64 kd, .int .i64 i, .int .i64 n, .slice BA bn bc, .slice KA kn kc, .int .i64 torn, .int .i64 cut] 46)).cell? ⟨w.heap.size, 3, none⟩ = some (.slice BA bn bc) ∧ (w.alloc (.cells #[.int .i64 kd, .int .i64 i, .int .i64 n, .slice BA bn bc, .slice KA kn kc, .int .i64 torn, .int .i64 cut] 46)).cell? ⟨w.heap.size, 4, none⟩ = some (.slice KA kn kc) ∧ (w.alloc (.cells #[.int .i64 kd, .int .i64 i, .int .i64 n, .slice BA bn bc, .slice KA kn kc, .int .i64 torn, .int .i64 cut] 46)).cell? ⟨w.heap.size, 5, none⟩ = some (.int .i64 torn) ∧ (w.alloc (.cells #[.int .i64 kd, .int .i64 i, .int .i64 n, .slice BA bn bc, .slice KA kn kc, .int .i64 torn, .int .i64 cut] 46)).cell? ⟨w.heap.size, 6, none⟩ = some (.int .i64 cut) from ⟨x1, x2, x3, x4, x5, x6⟩)
  have g1 : (kd == 1) = false := by rw [beq_eq_false_iff_ne]; exact h1
  have g2 : (kd == 2) = false := by rw [beq_eq_false_iff_ne]; exact h2
  have g3 : (kd == 3) = false := by rw [beq_eq_false_iff_ne]; exact h3
  have g4 : (kd == 4) = false := by rw [beq_eq_false_iff_ne]; exact h4
  have g5 : (kd == 5) = false := by rw [beq_eq_false_iff_ne]; exact h5
  have g6 : (kd == 6) = false := by rw [beq_eq_false_iff_ne]; exact h6
  have g8 : (kd == 8) = false := by rw [beq_eq_false_iff_ne]; exact h8
  have x0 : (w.alloc (.cells #[.int .i64 kd, .int .i64 i, .int .i64 n, .slice BA bn bc, .slice KA kn kc, .int .i64 torn, .int .i64 cut] 46)).cell? ⟨w.heap.size, 0, none⟩ = some (.int .i64 kd) := blk_cell hq0 0
  have HN2 := Lib.hid HD.out.dsk.n2
  have HLO := Lib.hid (Loose_ok HD.out.dsk)
  obtain ⟨x, hx, hrf⟩ := HD.out.ref
  have HRF := Lib.hid hrf
  clear hx hrf h1 h2 h3 h4 h5 h6 h8
  clear h hb0 hq0 hns hB hK hBA hKA
  go_enter Try.func21, Try.ntmps21
  go_wp2_with (first
    | (go_at_call 28; go_must (refine HLO.out.mono ?_; rintro e w1 ⟨A1, c1, rfl, ho1, hb1⟩; have HO1 := Lib.hid (Rd.of_own ho1); have HBL1 := Lib.hid hb1; have HRL := Lib.hid (RLoose_ok (HRF.out.below hb1)); clear ho1 hb1))
    | (go_at_call 63; go_must (refine HRL.out.mono ?_; rintro e w2 ⟨A2, c2, rfl, ho2, hb2⟩; have HO2 := Lib.hid (Rd.of_own ho2); have HBL2 := Lib.hid hb2; have HO12 := Lib.hid (HO1.out.below hb2); clear ho2 hb2))
    | (go_at_call 62; go_must (refine (Same_true A1 A2 _ c1 c2 (ints k.looseL) _ HO12.out HO2.out (ints_i64 HN2.out)).mono ?_; rintro e w3 ⟨rfl, hb3⟩; have HBE := Lib.hid (below_trans2 (below_trans2 HBL1.out HBL2.out) hb3); clear hb3)))
  go_ret
  exact ⟨rfl, HT0.out.trans (Touch.of_below HBE.out), _, _, HD.out.below HBE.out, by omega⟩
set_option maxHeartbeats 2000000 in
theorem step_read (h : Duo w B b c k) (i n torn cut : Int) (BA KA : Option Addr) (bn bc kn kc : Nat) (l : List UInt8) (keep : List Bool) (hi : I64 i) (hn : I64 n) (hB : Bs w BA bn bc l) (hK : Rd w 1 KA kn kc (keep.map Value.bool)) (hBA : 0 < bn → ∀ ad, BA = some ad → ad.block < B) (hKA : 0 < kn → ∀ ad, KA = some ad → ad.block < B) (hc : c + 65537 < 1099511627776) :
    Calls Try.prog 21 #[.pointer (some ⟨b.d, 0, none⟩), .pointer (some ⟨b.r, 0, none⟩), .agg #[.int .i64 1, .int .i64 i, .int .i64 n, .slice BA bn bc, .slice KA kn kc, .int .i64 torn, .int .i64 cut]] w (RetStep w B b c) := by
  have hb0 : Below w.heap.size w (w.alloc (.cells #[.int .i64 1, .int .i64 i, .int .i64 n, .slice BA bn bc, .slice KA kn kc, .int .i64 torn, .int .i64 cut] 46)) := (Below.refl _ w).alloc (Nat.le_refl _) _
  have hq0 := blk_new w (.cells #[.int .i64 1, .int .i64 i, .int .i64 n, .slice BA bn bc, .slice KA kn kc, .int .i64 torn, .int .i64 cut] 46)
  have HD := Lib.hid (h.below hb0)
  have hns : ¬ b.S w.heap.size := fun hs => by have := h.lt _ hs; omega
  have HNS := Lib.hid hns
  have HT0 := Lib.hid (Touch.of_below (S := b.S) hb0)
  have HB := Lib.hid (hB.below hb0)
  have HK := Lib.hid (hK.below hb0)
  have HBA := Lib.hid hBA
  have HKA := Lib.hid hKA
  have x1 : (w.alloc (.cells #[.int .i64 1, .int .i64 i, .int .i64 n, .slice BA bn bc, .slice KA kn kc, .int .i64 torn, .int .i64 cut] 46)).cell? ⟨w.heap.size, 1, none⟩ = some (.int .i64 i) := blk_cell hq0 1
  have x2 : (w.alloc (.cells #[.int .i64 1, .int .i64 i, .int .i64 n, .slice BA bn bc, .slice KA kn kc, .int .i64 torn, .int .i64 cut] 46)).cell? ⟨w.heap.size, 2, none⟩ = some (.int .i64 n) := blk_cell hq0 2
  have x3 : (w.alloc (.cells #[.int .i64 1, .int .i64 i, .int .i64 n, .slice BA bn bc, .slice KA kn kc, .int .i64 torn, .int .i64 cut] 46)).cell? ⟨w.heap.size, 3, none⟩ = some (.slice BA bn bc) := blk_cell hq0 3
  have x4 : (w.alloc (.cells #[.int .i64 1, .int .i64 i, .int .i64 n, .slice BA bn bc, .slice KA kn kc, .int .i64 torn, .int .i64 cut] 46)).cell? ⟨w.heap.size, 4, none⟩ = some (.slice KA kn kc) := blk_cell hq0 4
  have x5 : (w.alloc (.cells #[.int .i64 1, .int .i64 i, .int .i64 n, .slice BA bn bc, .slice KA kn kc, .int .i64 torn, .int .i64 cut] 46)).cell? ⟨w.heap.size, 5, none⟩ = some (.int .i64 torn) := blk_cell hq0 5
  have x6 : (w.alloc (.cells #[.int .i64 1, .int .i64 i, .int .i64 n, .slice BA bn bc, .slice KA kn kc, .int .i64 torn, .int .i64 cut] 46)).cell? ⟨w.heap.size, 6, none⟩ = some (.int .i64 cut) := blk_cell hq0 6
  have X := Lib.hid (show (w.alloc (.cells #[.int .i64 1, .int .i64 i, .int .i64 n, .slice BA bn bc, .slice KA kn kc, .int .i64 torn, .int .i64 cut] 46)).cell? ⟨w.heap.size, 1, none⟩ = some (.int .i64 i) ∧ (w.alloc (.cells #[.int .i64 1, .int .i64 i, .int .i64 n, .slice BA bn bc, .slice KA kn kc, .int .i64 torn, .int .i64 cut] 46)).cell? ⟨w.heap.size, 2, none⟩ = some (.int .i64 n) ∧ (w.alloc (.cells #[.int .i64 1, .int .i64 i, .int .i64 n, .slice BA bn bc, .slice KA kn kc, .int .i64 torn, .int .i64 cut] 46)).cell? ⟨w.heap.size, 3, none⟩ = some (.slice BA bn bc) ∧ (w.alloc (.cells #[.int .i64 1, .int .i64 i, .int .i64 n, .slice BA bn bc, .slice KA kn kc, .int .i64 torn, .int .i64 cut] 46)).cell? ⟨w.heap.size, 4, none⟩ = some (.slice KA kn kc) ∧ (w.alloc (.cells #[.int .i64 1, .int .i64 i, .int .i64 n, .slice BA bn bc, .slice KA kn kc, .int .i64 torn, .int .i64 cut] 46)).cell? ⟨w.heap.size, 5, none⟩ = some (.int .i64 torn) ∧ (w.alloc (.cells #[.int .i64 1, .int .i64 i, .int .i64 n, .slice BA bn bc, .slice KA kn kc, .int .i64 torn, .int .i64 cut] 46)).cell? ⟨w.heap.size, 6, none⟩ = some (.int .i64 cut) from ⟨x1, x2, x3, x4, x5, x6⟩)
  clear h hb0 hq0 hns hB hK hBA hKA
  go_enter Try.func21, Try.ntmps21
  obtain ⟨l2, z, hrr⟩ := read_any HD.out i n hi hn
  have HRR := Lib.hid hrr
  have HRP := Lib.hid (hrr _ (Below.refl _ _)).1
  obtain ⟨s, hs⟩ : ∃ s, s = strB l2 := ⟨_, rfl⟩
  have HS := Lib.hid hs
  clear hs hrr
  go_wp2_with (first
    | (go_at_call 22; go_must (refine HRP.out.mono ?_; rintro e w1 ⟨A1, m1, c1, rfl, hs1, hb1⟩; have HR1 := Lib.hid (HRR.out w1 hb1).2; have HB1 := Lib.hid hb1; have HS1 := Lib.hid hs1; have y1 := cell_keep hb1 X.out.1; have y2 := cell_keep hb1 X.out.2.1; clear hb1 hs1))
    | (go_at_call 55; go_must (refine HR1.out.mono ?_; rintro e w2 ⟨A2, m2, c2, rfl, hs2, hb2⟩; have HB2 := Lib.hid (below_trans2 HB1.out hb2); have e1 := run_string_bytes (P := Try.prog) 26 9 5 Try.underlying26 Try.underlying9 Try.underlying5 (HS1.out.below hb2); have e2 := run_string_bytes (P := Try.prog) 26 9 5 Try.underlying26 Try.underlying9 Try.underlying5 hs2; rw [← HS.out] at e1 e2; clear hb2 hs2)))
  go_ret
  exact ⟨rfl, HT0.out.trans (Touch.of_below HB2.out), _, _, HD.out.below HB2.out, by omega⟩
theorem step_ok (h : Duo w B b c k) (o : OpV) (ho : OpAt w o) (hBA : 0 < o.bn → ∀ ad, o.BA = some ad → ad.block < B) (hKA : 0 < o.kn → ∀ ad, o.KA = some ad → ad.block < B) (hc : c + 65537 < 1099511627776) :
    Calls Try.prog 21 #[.pointer (some ⟨b.d, 0, none⟩), .pointer (some ⟨b.r, 0, none⟩), .agg o.cells.toArray] w (RetStep w B b c) := by
  obtain ⟨kd, i, n, BA, bn, bc, l, KA, kn, kc, keep, torn, cut⟩ := o
  by_cases h1 : kd = 1
  · subst h1; exact step_read h i n torn cut BA KA bn bc kn kc l keep ho.i ho.n ho.bs ho.ks hBA hKA hc
  by_cases h2 : kd = 2
  · subst h2; exact step_write h i n torn cut BA KA bn bc kn kc l keep ho.i ho.n ho.bs ho.ks hBA hKA hc
  by_cases h3 : kd = 3
  · subst h3; exact step_barrier h i n torn cut BA KA bn bc kn kc l keep ho.i ho.n ho.bs ho.ks hBA hKA hc
  by_cases h4 : kd = 4
  · subst h4; exact step_crash h i n torn cut BA KA bn bc kn kc l keep ho.i ho.n ho.bs ho.ks hBA hKA hc
  by_cases h5 : kd = 5
  · subst h5; exact step_spoil h i n torn cut BA KA bn bc kn kc l keep ho.i ho.n ho.bs ho.ks hBA hKA hc
  by_cases h6 : kd = 6
  · subst h6; exact step_bad h i n torn cut BA KA bn bc kn kc l keep ho.i ho.n ho.bs ho.ks hBA hKA hc
  by_cases h8 : kd = 8
  · subst h8; exact step_fuse h i n torn cut BA KA bn bc kn kc l keep ho.i ho.n ho.bs ho.ks hBA hKA hc
  exact step_loose h kd h1 h2 h3 h4 h5 h6 h8 i n torn cut BA KA bn bc kn kc l keep ho.i ho.n ho.bs ho.ks hBA hKA hc
end
end Go.Proofs.Ytaldjmhikebecaa
