/- The reference of layer 8: refusals; Same. -/
import Derived.Test.YtaldjmhikebecaaGreatAlike
import Derived.BigQuiet
namespace Go.Proofs.YtaldjmhikebecaaGreat
open Go Go.RowKit
set_option maxRecDepth 100000
set_option linter.unusedVariables false
attribute [local go_sem] Oper.semAt_some
section
variable {w w' : World} {r L cap : Nat} {k : Dsk} {X : Nat → Prop}
theorem RRead_range (h : OnRef X w r L cap k) (i m : Int) (hi2 : -9223372036854775808 ≤ i ∧ i ≤ 9223372036854775807) (hi : ¬ (0 ≤ i ∧ 0 ≤ m ∧ i ≤ k.n ∧ m ≤ k.n - i)) : Calls Tryz.prog 81 #[.pointer (some ⟨r, 0, none⟩), .int .i64 i, .int .i64 m] w fun e w' => e = .returned (.tuple #[.slice none 0 0, .int .i64 5]) ∧ w' = w := by
  have c1 : w.cell? ⟨r, 1, none⟩ = some (.slice (some ⟨L, 0, none⟩) k.n cap) := blk_cell h.blk 1
  have hn2 := h.n2
  clear h
  rcases (by omega : i < 0 ∨ 0 ≤ i) with k1 | k1
  · go_enter Tryz.func81, Tryz.ntmps81
    go_wp2
    go_ret2
    exact ⟨rfl, rfl⟩
  · have k0 : ¬ i < 0 := by omega
    rcases (by omega : m < 0 ∨ 0 ≤ m) with k2 | k2
    · go_enter Tryz.func81, Tryz.ntmps81
      go_wp2
      go_ret2
      exact ⟨rfl, rfl⟩
    · have k3 : ¬ m < 0 := by omega
      rcases (by omega : (k.n : Int) < i ∨ i ≤ (k.n : Int)) with k4 | k4
      · go_enter Tryz.func81, Tryz.ntmps81
        go_wp2
        go_ret2
        exact ⟨rfl, rfl⟩
      · have k5 : ¬ (k.n : Int) < i := by omega
        have k6 : IntKind.i64.wrap ((k.n : Int) - i) = (k.n : Int) - i := by rw [IntKind.wrap_i64]; omega
        have k7 : (k.n : Int) - i < m := by omega
        go_enter Tryz.func81, Tryz.ntmps81
        go_wp2
        go_ret2
        exact ⟨rfl, rfl⟩
theorem RSpoil_range (h : OnRef X w r L cap k) (A : Option Addr) (m c' : Nat) (i : Int) (hi : ¬ (0 ≤ i ∧ i < k.n)) : Calls Tryz.prog 23 #[.pointer (some ⟨r, 0, none⟩), .int .i64 i, .slice A m c'] w fun e w' => e = .returned (.int .i64 5) ∧ w' = w := by
  have c1 : w.cell? ⟨r, 1, none⟩ = some (.slice (some ⟨L, 0, none⟩) k.n cap) := blk_cell h.blk 1
  clear h
  rcases (by omega : i < 0 ∨ 0 ≤ i) with k1 | k1
  · go_enter Tryz.func23, Tryz.ntmps23
    go_wp2
    go_ret
    exact ⟨rfl, rfl⟩
  · have k0 : ¬ i < 0 := by omega
    have k2 : (k.n : Int) ≤ i := by omega
    go_enter Tryz.func23, Tryz.ntmps23
    go_wp2
    go_ret
    exact ⟨rfl, rfl⟩
theorem RSpoil_arg (h : OnRef X w r L cap k) (A : Option Addr) (m c' : Nat) (i : Nat) (hi : i < k.n) (hm : k.size < m) : Calls Tryz.prog 23 #[.pointer (some ⟨r, 0, none⟩), .int .i64 (i : Int), .slice A m c'] w fun e w' => e = .returned (.int .i64 1) ∧ w' = w := by
  have c0 : w.cell? ⟨r, 0, none⟩ = some (.int .i64 (k.size : Int)) := blk_cell h.blk 0
  have c1 : w.cell? ⟨r, 1, none⟩ = some (.slice (some ⟨L, 0, none⟩) k.n cap) := blk_cell h.blk 1
  have k0 : ¬ (i : Int) < 0 := by omega
  have k2 : ¬ (k.n : Int) ≤ (i : Int) := by omega
  have k3 : (k.size : Int) < (m : Int) := by omega
  clear h
  go_enter Tryz.func23, Tryz.ntmps23
  go_wp2
  go_ret
  exact ⟨rfl, rfl⟩
theorem RefWrite_arg (h : OnRef X w r L cap k) (A : Option Addr) (n c' : Nat) (i : Int) (hn : n ≤ 9223372036854775807) (hm : ¬ n % k.size = 0) : Calls Tryz.prog 52 #[.pointer (some ⟨r, 0, none⟩), .int .i64 i, .slice A n c'] w fun e w' => e = .returned (.int .i64 1) ∧ w' = w := by
  have c0 : w.cell? ⟨r, 0, none⟩ = some (.int .i64 (k.size : Int)) := blk_cell h.blk 0
  have hs1 := h.s1
  have hm2 : ¬ ((n : Int) % (k.size : Int) = 0) := by omega
  have hm3 : ((n : Int) % (k.size : Int) == 0) = false := by rw [beq_eq_false_iff_ne]; exact hm2
  clear h hm
  go_enter Tryz.func52, Tryz.ntmps52
  go_wp2
  go_ret
  exact ⟨rfl, rfl⟩
set_option maxHeartbeats 1000000 in
theorem RefWrite_range (h : OnRef X w r L cap k) (A : Option Addr) (n c' m : Nat) (i : Int) (hn : n ≤ 9223372036854775807) (hm : n = m * k.size) (hi2 : -9223372036854775808 ≤ i ∧ i ≤ 9223372036854775807) (hi : ¬ (0 ≤ i ∧ i ≤ k.n ∧ (m : Int) ≤ k.n - i)) : Calls Tryz.prog 52 #[.pointer (some ⟨r, 0, none⟩), .int .i64 i, .slice A n c'] w fun e w' => e = .returned (.int .i64 5) ∧ Below w.heap.size w w' := by
  have c0 : w.cell? ⟨r, 0, none⟩ = some (.int .i64 (k.size : Int)) := blk_cell h.blk 0
  have c1 : w.cell? ⟨r, 1, none⟩ = some (.slice (some ⟨L, 0, none⟩) k.n cap) := blk_cell h.blk 1
  have hn2 := h.n2
  have hs1 := h.s1
  have hs2 := h.s2
  have hmb : m ≤ 9223372036854775807 := by have := Nat.le_mul_of_pos_right m hs1; omega
  have hrem : (n : Int) % (k.size : Int) = 0 := by rw [hm]; simp
  have hquo : (n : Int) / (k.size : Int) = (m : Int) := by rw [hm]; push_cast; rw [Int.mul_ediv_cancel _ (by omega)]
  have HM := Lib.hid hm
  clear h hm
  rcases (by omega : i < 0 ∨ 0 ≤ i) with k1 | k1
  · have k2 : decide (i < 0) = true := by simp; omega
    have e1 := hi2
    clear hi
    go_enter Tryz.func52, Tryz.ntmps52
    go_wp2
    go_quiet (fail)
    go_wp2
    go_ret
    exact ⟨rfl, below_drewN (Below.refl _ _) _⟩
  · obtain ⟨i, rfl⟩ := Int.eq_ofNat_of_zero_le k1
    have k2 : decide ((i : Int) < 0) = false := by simp
    by_cases k3 : (k.n : Int) < (i : Int)
    · have k4 : decide (k.n < i) = true := by simp; omega
      have k5 : decide ((k.n : Int) < (i : Int)) = true := by simp; omega
      clear hi
      go_enter Tryz.func52, Tryz.ntmps52
      go_wp2
      go_quiet (fail)
      go_wp2
      go_ret
      exact ⟨rfl, below_drewN (Below.refl _ _) _⟩
    · have k4 : decide (k.n < i) = false := by simp; omega
      have k5 : decide ((k.n : Int) < (i : Int)) = false := by simp; omega
      have k6 : IntKind.i64.wrap ((k.n : Int) - (i : Int)) = (k.n : Int) - (i : Int) := by rw [IntKind.wrap_i64]; omega
      have k7 : decide ((k.n : Int) - (i : Int) < (m : Int)) = true := by simp; omega
      clear hi
      go_enter Tryz.func52, Tryz.ntmps52
      go_wp2
      go_quiet (fail)
      go_wp2
      go_ret
      exact ⟨rfl, below_drewN (Below.refl _ _) _⟩
set_option maxHeartbeats 1000000 in
theorem RefWrite_power (h : OnRef X w r L cap k) (A : Option Addr) (n c' m i : Nat) (hn : n ≤ 9223372036854775807) (hm : n = m * k.size) (hi : i + m ≤ k.n) (hon : ¬ k.on) : Calls Tryz.prog 52 #[.pointer (some ⟨r, 0, none⟩), .int .i64 (i : Int), .slice A n c'] w fun e w' =>
    e = .returned (.int .i64 82) ∧ OnRef X w' r L cap k ∧ Touch (fun b => b = r ∨ b = L) w w' := by
  have HP := Lib.hid (fun q : Nat => show Calls _ _ _ (w.drewN q) fun e w' => e = .returned (.bool false) ∧ OnRef X w' r L cap k ∧ Touch (· = r) (w.drewN q) w' from by
    have hp := Rpower_ok (h.below (below_drewN (Below.refl _ _) q))
    rw [decide_eq_false hon, if_neg hon] at hp
    exact hp)
  have c0 : w.cell? ⟨r, 0, none⟩ = some (.int .i64 (k.size : Int)) := blk_cell h.blk 0
  have c1 : w.cell? ⟨r, 1, none⟩ = some (.slice (some ⟨L, 0, none⟩) k.n cap) := blk_cell h.blk 1
  have hn2 := h.n2
  have hs1 := h.s1
  have hs2 := h.s2
  have hrem : (n : Int) % (k.size : Int) = 0 := by rw [hm]; simp
  have hquo : (n : Int) / (k.size : Int) = (m : Int) := by rw [hm]; push_cast; rw [Int.mul_ediv_cancel _ (by omega)]
  have k1 : decide ((i : Int) < 0) = false := by simp
  have k2 : decide ((k.n : Int) < (i : Int)) = false := by simp; omega
  have k2' : decide (k.n < i) = false := by simp; omega
  have k3 : IntKind.i64.wrap ((k.n : Int) - (i : Int)) = (k.n : Int) - (i : Int) := by rw [IntKind.wrap_i64]; omega
  have k4 : decide ((k.n : Int) - (i : Int) < (m : Int)) = false := by simp; omega
  have HM := Lib.hid hm
  clear h hm hon
  go_enter Tryz.func52, Tryz.ntmps52
  go_wp2
  go_quiet (fail)
  rename_i nq
  have HPQ := Lib.hid (HP.out nq)
  have HT0 := Lib.hid (show Touch (fun b => b = r ∨ b = L) w (w.drewN nq) from Touch.of_below (below_drewN (Below.refl _ _) nq))
  clear HP k1 k2 k2' k3 k4 c0 c1
  generalize w.drewN nq = w1 at HPQ HT0 ⊢
  go_wp2_with (go_at_call 53; go_must (refine HPQ.out.mono ?_; rintro e wx ⟨rfl, hd, ht⟩; have HD := Lib.hid hd; have HT := Lib.hid (HT0.out.trans (ht.mono fun _ _ h => .inl h)); clear hd ht))
  go_ret
  exact ⟨rfl, HD.out, HT.out⟩
end
end Go.Proofs.YtaldjmhikebecaaGreat
