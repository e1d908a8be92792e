/- Layer 8 (sector): New's refusals, of the program and of the reference. -/
import Derived.Test.YtaldjmhikebecaaGreatRefN
namespace Go.Proofs.YtaldjmhikebecaaGreat
open Go Go.RowKit
set_option maxRecDepth 100000
set_option linter.unusedVariables false
attribute [local go_sem] Oper.semAt_some
theorem New_bad (n s : Int) (w : World) (h : ¬ ((1 ≤ n ∧ n ≤ 65536) ∧ 1 ≤ s ∧ s ≤ 8192)) : Calls Tryz.prog 11 #[.int .i64 n, .int .i64 s] w fun e w' => e = .returned (.tuple #[.pointer none, .int .i64 80]) ∧ w' = w := by
  rcases (by omega : (min n s < 1) ∨ (¬ min n s < 1 ∧ 65536 < n) ∨ (¬ min n s < 1 ∧ ¬ 65536 < n ∧ 8192 < s)) with h1 | ⟨h1, h2⟩ | ⟨h1, h2, h3⟩
  · clear h
    go_enter Tryz.func11, Tryz.ntmps11
    go_wp2
    go_ret2
    exact ⟨rfl, rfl⟩
  · clear h
    go_enter Tryz.func11, Tryz.ntmps11
    go_wp2
    go_ret2
    exact ⟨rfl, rfl⟩
  · clear h
    go_enter Tryz.func11, Tryz.ntmps11
    go_wp2
    go_ret2
    exact ⟨rfl, rfl⟩
theorem RNew_bad (n s : Int) (w : World) (h : ¬ ((1 ≤ n ∧ n ≤ 65536) ∧ 1 ≤ s ∧ s ≤ 8192)) : Calls Tryz.prog 18 #[.int .i64 n, .int .i64 s] w fun e w' => e = .returned (.tuple #[.pointer none, .int .i64 80]) ∧ w' = w := by
  rcases (by omega : n < 1 ∨ (¬ n < 1 ∧ 65536 < n) ∨ (¬ n < 1 ∧ ¬ 65536 < n ∧ s < 1) ∨ (¬ n < 1 ∧ ¬ 65536 < n ∧ ¬ s < 1 ∧ 8192 < s)) with h1 | ⟨h1, h2⟩ | ⟨h1, h2, h3⟩ | ⟨h1, h2, h3, h4⟩
  all_goals
    clear h
    go_enter Tryz.func18, Tryz.ntmps18
    go_wp2
    go_ret2
    exact ⟨rfl, rfl⟩
end Go.Proofs.YtaldjmhikebecaaGreat
