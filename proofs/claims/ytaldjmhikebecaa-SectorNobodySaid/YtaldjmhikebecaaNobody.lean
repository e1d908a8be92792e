/- Layer 8 (sector): a disk that nobody made. -/
import Derived.Test.YtaldjmhikebecaaAwakeS
namespace Go.Proofs.Ytaldjmhikebecaa
open Go Go.RowKit
set_option maxRecDepth 100000
set_option linter.unusedVariables false
attribute [local go_sem] Oper.semAt_some
def NoDisk (w : World) (p : Option Addr) : Prop := p = none ∨ ∃ z, p = some ⟨z, 0, none⟩ ∧ w.cell? ⟨z, 1, none⟩ = some (.int .i64 0)
section
variable {w w' : World} {p : Option Addr}
theorem NoDisk.below (h : NoDisk w p) (hb : Below w.heap.size w w') : NoDisk w' p := by
  rcases h with h | ⟨z, h1, h2⟩
  · exact .inl h
  · exact .inr ⟨z, h1, cell_keep hb h2⟩
theorem made_no (h : NoDisk w p) : Calls Try.prog 64 #[.pointer p] w fun e w' => e = .returned (.bool false) ∧ w' = w := by
  rcases h with rfl | ⟨z, rfl, hc⟩
  · go_enter Try.func64, Try.ntmps64
    go_wp2
    go_ret
    simp
  · go_enter Try.func64, Try.ntmps64
    go_wp2
    go_ret
    simp
theorem Read_no (h : NoDisk w p) (i n : Int) : Calls Try.prog 22 #[.pointer p, .int .i64 i, .int .i64 n] w fun e w' => e = .returned (.tuple #[.slice none 0 0, .int .i64 4]) ∧ w' = w := by
  have HM := Lib.hid (made_no h)
  clear h
  go_enter Try.func22, Try.ntmps22
  go_wp2_with (go_at_call 64; go_must (refine HM.out.mono ?_; rintro e wx ⟨rfl, hwx⟩; obtain rfl := hwx.symm))
  go_ret2
  exact ⟨rfl, rfl⟩
theorem Shape_no (h : NoDisk w p) : Calls Try.prog 32 #[.pointer p] w fun e w' => e = .returned (.tuple #[.int .i64 0, .int .i64 0]) ∧ w' = w := by
  have HM := Lib.hid (made_no h)
  clear h
  go_enter Try.func32, Try.ntmps32
  go_wp2_with (go_at_call 64; go_must (refine HM.out.mono ?_; rintro e wx ⟨rfl, hwx⟩; obtain rfl := hwx.symm))
  go_ret2
  exact ⟨rfl, rfl⟩
theorem Barrier_no (h : NoDisk w p) : Calls Try.prog 25 #[.pointer p] w fun e w' => e = .returned (.int .i64 4) ∧ w' = w := by
  have HM := Lib.hid (made_no h)
  clear h
  go_enter Try.func25, Try.ntmps25
  go_wp2_with (go_at_call 64; go_must (refine HM.out.mono ?_; rintro e wx ⟨rfl, hwx⟩; obtain rfl := hwx.symm))
  go_ret
  exact ⟨rfl, rfl⟩
theorem Spoil_no (h : NoDisk w p) (i : Int) (v : Value) : Calls Try.prog 33 #[.pointer p, .int .i64 i, v] w fun e w' => e = .returned (.int .i64 4) ∧ w' = w := by
  have HM := Lib.hid (made_no h)
  clear h
  go_enter Try.func33, Try.ntmps33
  go_wp2_with (go_at_call 64; go_must (refine HM.out.mono ?_; rintro e wx ⟨rfl, hwx⟩; obtain rfl := hwx.symm))
  go_ret
  exact ⟨rfl, rfl⟩
theorem Bad_no (h : NoDisk w p) (i : Int) : Calls Try.prog 34 #[.pointer p, .int .i64 i] w fun e w' => e = .returned (.int .i64 4) ∧ w' = w := by
  have HM := Lib.hid (made_no h)
  clear h
  go_enter Try.func34, Try.ntmps34
  go_wp2_with (go_at_call 64; go_must (refine HM.out.mono ?_; rintro e wx ⟨rfl, hwx⟩; obtain rfl := hwx.symm))
  go_ret
  exact ⟨rfl, rfl⟩
theorem Fuse_no (h : NoDisk w p) (i : Int) : Calls Try.prog 24 #[.pointer p, .int .i64 i] w fun e w' => e = .returned (.int .i64 4) ∧ w' = w := by
  have HM := Lib.hid (made_no h)
  clear h
  go_enter Try.func24, Try.ntmps24
  go_wp2_with (go_at_call 64; go_must (refine HM.out.mono ?_; rintro e wx ⟨rfl, hwx⟩; obtain rfl := hwx.symm))
  go_ret
  exact ⟨rfl, rfl⟩
theorem Copy_no (h : NoDisk w p) : Calls Try.prog 26 #[.pointer p] w fun e w' => e = .returned (.pointer none) ∧ w' = w := by
  have HM := Lib.hid (made_no h)
  clear h
  go_enter Try.func26, Try.ntmps26
  go_wp2_with (go_at_call 64; go_must (refine HM.out.mono ?_; rintro e wx ⟨rfl, hwx⟩; obtain rfl := hwx.symm))
  go_ret
  exact ⟨rfl, rfl⟩
theorem Loose_no (h : NoDisk w p) : Calls Try.prog 28 #[.pointer p] w fun e w' => e = .returned (.slice none 0 0) ∧ w' = w := by
  have HM := Lib.hid (made_no h)
  clear h
  go_enter Try.func28, Try.ntmps28
  go_wp2_with (go_at_call 64; go_must (refine HM.out.mono ?_; rintro e wx ⟨rfl, hwx⟩; obtain rfl := hwx.symm))
  go_ret
  exact ⟨rfl, rfl⟩
theorem Write_no (h : NoDisk w p) (i : Int) (v : Value) : Calls Try.prog 27 #[.pointer p, .int .i64 i, v] w fun e w' => e = .returned (.int .i64 4) ∧ Below w.heap.size w w' := by
  have hb : Below w.heap.size w ((w.alloc (.cells #[.pointer p] 37)).alloc (.cells #[.int .i64 i] 3)) := ((Below.refl _ w).alloc (Nat.le_refl _) _).alloc (by simp) _
  have HM := Lib.hid (made_no (h.below hb))
  have HB := Lib.hid hb
  clear h hb
  go_enter Try.func27, Try.ntmps27
  go_wp2_with (go_at_call 64; go_must (refine HM.out.mono ?_; rintro e wx ⟨rfl, hwx⟩; obtain rfl := hwx.symm))
  go_ret
  exact ⟨rfl, HB.out⟩
theorem Crash_no (h : NoDisk w p) (a b c : Value) (h1 : a.oneCell' = true) (h2 : b.oneCell' = true) (h3 : c.oneCell' = true) : Calls Try.prog 29 #[.pointer p, .agg #[a, b, c]] w fun e w' => e = .returned (.int .i64 4) ∧ Below w.heap.size w w' := by
  have hb : Below w.heap.size w (w.alloc (.cells #[a, b, c] 44)) := (Below.refl _ w).alloc (Nat.le_refl _) _
  have HM := Lib.hid (made_no (h.below hb))
  have HB := Lib.hid hb
  clear h hb
  go_enter Try.func29, Try.ntmps29
  go_wp2_with (go_at_call 64; go_must (refine HM.out.mono ?_; rintro e wx ⟨rfl, hwx⟩; obtain rfl := hwx.symm))
  go_ret
  exact ⟨rfl, HB.out⟩
end
end Go.Proofs.Ytaldjmhikebecaa
