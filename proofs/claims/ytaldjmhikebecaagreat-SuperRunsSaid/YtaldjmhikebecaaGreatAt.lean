/- Layer 8 (sector): at, Shape, power; super: made, fits. -/
import Derived.Test.YtaldjmhikebecaaGreatDisk
import Derived.Test.YtaldjmhikebecaaGreatChunk
import Derived.Deep.RegionHeld3
namespace Go.Proofs.YtaldjmhikebecaaGreat
open Go Go.RowKit
set_option maxRecDepth 100000
set_option linter.unusedVariables false
attribute [local go_sem] Oper.semAt_some
section
variable {w : World} {d fb lb bb c : Nat} {k : Dsk} {X : Nat → Prop}
theorem disk_made (h : OnDisk X w d fb lb bb c k) : Calls Tryz.prog 40 #[.pointer (some ⟨d, 0, none⟩)] w fun e w' => e = .returned (.bool true) ∧ w' = w :=
  made_yes d k.size (by have := h.s1; omega) w (h.cell 1)
theorem Shape_ok (h : OnDisk X w d fb lb bb c k) : Calls Tryz.prog 37 #[.pointer (some ⟨d, 0, none⟩)] w fun e w' => e = .returned (.tuple #[.int .i64 (k.n : Int), .int .i64 (k.size : Int)]) ∧ Below w.heap.size w w' := by
  have HM := Lib.hid (disk_made h)
  have c0 : w.cell? ⟨d, 0, none⟩ = some (.int .i64 (k.n : Int)) := h.cell 0
  have c1 : w.cell? ⟨d, 1, none⟩ = some (.int .i64 (k.size : Int)) := h.cell 1
  clear h
  generalize k.n = n at c0 ⊢
  generalize k.size = s at c1 ⊢
  go_enter Tryz.func37, Tryz.ntmps37
  go_wp2_with (go_at_call 40; go_must (refine HM.out.mono ?_; rintro e wx ⟨rfl, rfl⟩))
  go_quiet (fail)
  go_wp2
  go_ret2
  exact ⟨rfl, below_drewN (Below.refl _ _) _⟩
theorem smade_ok (h : OnDisk X w d fb lb bb c k) : Calls Tryz.prog 34 #[.pointer (some ⟨d, 0, none⟩)] w fun e w' => e = .returned (.bool true) ∧ Below w.heap.size w w' := by
  have HM := Lib.hid (Shape_ok h)
  have h1 : (0 : Int) < (k.n : Int) := by have := h.n1; omega
  clear h
  generalize k.n = n at HM h1
  generalize k.size = s at HM
  go_enter Tryz.func34, Tryz.ntmps34
  go_wp2_with (go_at_call 37; go_must (refine HM.out.mono ?_; rintro e wx ⟨rfl, hb⟩; have HB := Lib.hid hb; clear hb))
  go_ret
  exact ⟨by simpa using h1, HB.out⟩
theorem sfits_any (h : OnDisk X w d fb lb bb c k) : Calls Tryz.prog 36 #[.pointer (some ⟨d, 0, none⟩)] w fun e w' => e = .returned (.int .i64 (if 2 ≤ k.n ∧ 72 ≤ k.size then 0 else 80)) ∧ Below w.heap.size w w' := by
  have HM := Lib.hid (Shape_ok h)
  clear h
  generalize k.n = n at HM ⊢
  generalize k.size = s at HM ⊢
  by_cases h1 : (n : Int) < 2
  · have e1 : ¬ (2 ≤ n ∧ 72 ≤ s) := by omega
    rw [if_neg e1]
    clear e1
    go_enter Tryz.func36, Tryz.ntmps36
    go_wp2_with (go_at_call 37; go_must (refine HM.out.mono ?_; rintro e wx ⟨rfl, hb⟩; have HB := Lib.hid hb; clear hb))
    go_ret
    exact ⟨rfl, HB.out⟩
  · by_cases h2 : (s : Int) < 72
    · have e1 : ¬ (2 ≤ n ∧ 72 ≤ s) := by omega
      rw [if_neg e1]
      clear e1
      go_enter Tryz.func36, Tryz.ntmps36
      go_wp2_with (go_at_call 37; go_must (refine HM.out.mono ?_; rintro e wx ⟨rfl, hb⟩; have HB := Lib.hid hb; clear hb))
      go_ret
      exact ⟨rfl, HB.out⟩
    · have e1 : 2 ≤ n ∧ 72 ≤ s := by omega
      rw [if_pos e1]
      clear e1
      go_enter Tryz.func36, Tryz.ntmps36
      go_wp2_with (go_at_call 37; go_must (refine HM.out.mono ?_; rintro e wx ⟨rfl, hb⟩; have HB := Lib.hid hb; clear hb))
      go_ret
      exact ⟨rfl, HB.out⟩
/-- What is fast in a sector, in place. -/
theorem at_ok (h : OnDisk X w d fb lb bb c k) (i : Nat) (hi : i < k.n) : Calls Tryz.prog 48 #[.pointer (some ⟨d, 0, none⟩), .int .i64 (i : Int)] w fun e w' =>
    e = .returned (.slice (some ((⟨fb, 0, none⟩ : Addr).add (i * k.size))) k.size k.size) ∧ Below w.heap.size w w' := by
  have c1 : w.cell? ⟨d, 1, none⟩ = some (.int .i64 (k.size : Int)) := h.cell 1
  have c2 : w.cell? ⟨d, 2, none⟩ = some (.slice (some ⟨fb, 0, none⟩) (k.n * k.size) (k.n * k.size + k.sp)) := h.cell 2
  have hsp := h.spm
  have hn := h.n2
  have hs := h.s1
  have hs2 := h.s2
  clear h
  generalize k.size = s at c1 c2 hs hs2 hsp ⊢
  generalize k.n = n at c2 hn hi hsp
  generalize k.sp = sp at c2 hsp
  have hmul : n * s ≤ 65536 * 8192 := Nat.mul_le_mul hn hs2
  have hmul1 : (i + 1) * s ≤ n * s := Nat.mul_le_mul_right s hi
  have hmul2 : (i + 1) * s = i * s + s := by rw [Nat.add_mul, Nat.one_mul]
  obtain ⟨N, hN⟩ : ∃ N, N = n * s := ⟨_, rfl⟩
  obtain ⟨M, hM⟩ : ∃ M, M = n * s + sp := ⟨_, rfl⟩
  obtain ⟨lo, hlo⟩ : ∃ lo, lo = i * s := ⟨_, rfl⟩
  obtain ⟨hi', hhi⟩ : ∃ hi', hi' = (i + 1) * s := ⟨_, rfl⟩
  obtain ⟨j, hj⟩ : ∃ j, j = i + 1 := ⟨_, rfl⟩
  have w1 : IntKind.i64.wrap ((i : Int) * (s : Int)) = (lo : Int) := by rw [IntKind.wrap_i64, ← Int.natCast_mul]; omega
  have w2 : IntKind.i64.wrap ((i : Int) + 1) = (j : Int) := by rw [IntKind.wrap_i64]; omega
  have w3 : IntKind.i64.wrap ((j : Int) * (s : Int)) = (hi' : Int) := by rw [IntKind.wrap_i64, ← Int.natCast_mul, hj]; omega
  have hcut := cut3 (some ⟨fb, 0, none⟩) N M lo hi' (by omega) (by omega) (by omega)
  rw [show hi' - lo = s from by omega] at hcut
  rw [← hM, ← hN] at c2
  rw [← hlo]
  clear hM hsp hN hlo hhi hj hmul hmul1 hmul2 hn hs hs2 hi
  go_enter Tryz.func48, Tryz.ntmps48
  go_wp2
  go_quiet (fail)
  go_wp2
  go_ret
  exact ⟨by simp [Addr.add_lit], below_drewN (Below.refl _ _) _⟩
end
end Go.Proofs.YtaldjmhikebecaaGreat
