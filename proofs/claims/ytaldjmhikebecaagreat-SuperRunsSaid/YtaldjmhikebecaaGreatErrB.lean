/- Layer 8 (sector): Barrier's and Spoil's refusals. -/
import Derived.Test.YtaldjmhikebecaaGreatBar
namespace Go.Proofs.YtaldjmhikebecaaGreat
open Go Go.RowKit
set_option maxRecDepth 100000
set_option linter.unusedVariables false
attribute [local go_sem] Oper.semAt_some
section
variable {w w' : World} {d fb lb bb c : Nat} {k : Dsk} {X : Nat → Prop}
theorem Barrier_power (h : OnDisk X w d fb lb bb c k) (hon : ¬ k.on) : Calls Tryz.prog 13 #[.pointer (some ⟨d, 0, none⟩)] w fun e w' => e = .returned (.int .i64 82) ∧ w' = w := by
  have HMADE := Lib.hid (disk_made h)
  have HP := Lib.hid (power_out h hon)
  clear h hon
  go_enter Tryz.func13, Tryz.ntmps13
  go_wp2_with (first
    | (go_at_call 40; go_must (refine HMADE.out.mono ?_; rintro e wx ⟨rfl, hwx⟩; obtain rfl := hwx.symm))
    | (go_at_call 41; go_must (refine HP.out.mono ?_; rintro e wx ⟨rfl, hwx⟩; obtain rfl := hwx.symm)))
  go_ret
  exact ⟨rfl, rfl⟩
theorem Spoil_range (h : OnDisk X w d fb lb bb c k) (A : Option Addr) (m c' : Nat) (i : Int) (hi : ¬ (0 ≤ i ∧ i < k.n)) : Calls Tryz.prog 22 #[.pointer (some ⟨d, 0, none⟩), .int .i64 i, .slice A m c'] w fun e w' => e = .returned (.int .i64 5) ∧ w' = w := by
  have HMADE := Lib.hid (disk_made h)
  have c0 : w.cell? ⟨d, 0, none⟩ = some (.int .i64 (k.n : Int)) := h.cell 0
  clear h
  rcases (by omega : i < 0 ∨ 0 ≤ i) with k1 | k1
  · go_enter Tryz.func22, Tryz.ntmps22
    go_wp2_with (go_at_call 40; go_must (refine HMADE.out.mono ?_; rintro e wx ⟨rfl, hwx⟩; obtain rfl := hwx.symm))
    go_ret
    exact ⟨rfl, rfl⟩
  · have k0 : ¬ i < 0 := by omega
    have k2 : (k.n : Int) ≤ i := by omega
    go_enter Tryz.func22, Tryz.ntmps22
    go_wp2_with (go_at_call 40; go_must (refine HMADE.out.mono ?_; rintro e wx ⟨rfl, hwx⟩; obtain rfl := hwx.symm))
    go_ret
    exact ⟨rfl, rfl⟩
theorem Spoil_arg (h : OnDisk X w d fb lb bb c k) (A : Option Addr) (m c' : Nat) (i : Nat) (hi : i < k.n) (hm : k.size < m) : Calls Tryz.prog 22 #[.pointer (some ⟨d, 0, none⟩), .int .i64 (i : Int), .slice A m c'] w fun e w' => e = .returned (.int .i64 1) ∧ w' = w := by
  have HMADE := Lib.hid (disk_made h)
  have c0 : w.cell? ⟨d, 0, none⟩ = some (.int .i64 (k.n : Int)) := h.cell 0
  have c1 : w.cell? ⟨d, 1, none⟩ = some (.int .i64 (k.size : Int)) := h.cell 1
  have k0 : ¬ (i : Int) < 0 := by omega
  have k2 : ¬ (k.n : Int) ≤ (i : Int) := by omega
  have k3 : (k.size : Int) < (m : Int) := by omega
  clear h
  go_enter Tryz.func22, Tryz.ntmps22
  go_wp2_with (go_at_call 40; go_must (refine HMADE.out.mono ?_; rintro e wx ⟨rfl, hwx⟩; obtain rfl := hwx.symm))
  go_ret
  exact ⟨rfl, rfl⟩
end
end Go.Proofs.YtaldjmhikebecaaGreat
