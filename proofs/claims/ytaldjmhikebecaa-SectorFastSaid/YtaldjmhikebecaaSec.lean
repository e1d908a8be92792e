/- Layer 8 (sector): the small methods. -/
import Derived.Test.YtaldjmhikebecaaClone
import Derived.Deep.RegionHeld3
import Derived.Deep.RegionWith
import Derived.Lib.AppendZerosOnto
import Derived.Lib.FrozenHead
import Derived.LoopIn
import Derived.LoopNIn
import Derived.OwnWalkIn
import Derived.RangeFuncBound
import Derived.RangeFuncBox
import Derived.RangeFuncCalls
import Derived.RangeFuncLeaves
import Derived.RangeFuncNested
import Derived.Shelf.Abstract
import Derived.Shelf.RegionOpen
import Derived.TacticsInMore
namespace Go.Proofs.Ytaldjmhikebecaa
open Go Go.RowKit
set_option maxRecDepth 100000
set_option linter.unusedVariables false
attribute [local go_sem] Oper.semAt_some
theorem made_yes (d : Nat) (z : Int) (hz : 0 < z) (w : World) (hc : w.cell? ⟨d, 1, none⟩ = some (.int .i64 z)) :
    Calls Try.prog 64 #[.pointer (some ⟨d, 0, none⟩)] w fun e w' => e = .returned (.bool true) ∧ w' = w := by
  have hz1 : decide (0 < z) = true := by simpa using hz
  go_enter Try.func64, Try.ntmps64
  go_wp2
  go_ret
  simp
theorem in_any (d : Nat) (n a b : Int) (w : World) (hc : w.cell? ⟨d, 0, none⟩ = some (.int .i64 n)) (hn0 : 0 ≤ n) (hn : n ≤ 65536) (ha : -9223372036854775808 ≤ a) (ha2 : a ≤ 9223372036854775807) :
    Calls Try.prog 65 #[.pointer (some ⟨d, 0, none⟩), .int .i64 a, .int .i64 b] w fun e w' => e = .returned (.bool (decide (0 ≤ a ∧ 0 ≤ b ∧ a ≤ n ∧ b ≤ n - a))) ∧ w' = w := by
  by_cases h1 : 0 ≤ a
  · by_cases h2 : 0 ≤ b
    · by_cases h3 : a ≤ n
      · have hw : IntKind.i64.wrap (n - a) = n - a := by rw [IntKind.wrap_i64]; omega
        go_enter Try.func65, Try.ntmps65
        go_wp2
        go_ret
        simp [h1, h2, h3] <;> (try (intros; omega))
      · go_enter Try.func65, Try.ntmps65
        go_wp2
        go_ret
        simp <;> (try (intros; omega))
    · go_enter Try.func65, Try.ntmps65
      go_wp2
      go_ret
      simp <;> (try (intros; omega))
  · go_enter Try.func65, Try.ntmps65
    go_wp2
    go_ret
    simp <;> (try (intros; omega))
theorem power_off (d : Nat) (w : World) (h5 : w.cell? ⟨d, 5, none⟩ = some (.bool false)) (h6 : w.cell? ⟨d, 6, none⟩ = some (.int .i64 0)) (hf : w.frozen? ⟨d, 6, none⟩ = false) :
    Calls Try.prog 67 #[.pointer (some ⟨d, 0, none⟩)] w fun e w' => e = .returned (.int .i64 0) ∧ w' = w.setCell ⟨d, 6, none⟩ (.int .i64 0) := by
  go_enter Try.func67, Try.ntmps67
  go_wp2
  go_ret
  exact ⟨rfl, rfl⟩
end Go.Proofs.Ytaldjmhikebecaa
