/- Layer 8 (sector): Read's and Write's refusals; what is laid over a sector, read. -/
import Derived.Test.YtaldjmhikebecaaGreatCrash
import Derived.Test.YtaldjmhikebecaaGreatWrite
namespace Go.Proofs.YtaldjmhikebecaaGreat
open Go Go.RowKit
set_option maxRecDepth 100000
set_option linter.unusedVariables false
attribute [local go_sem] Oper.semAt_some
theorem at_lay {k : Dsk} (hlen : k.fast.length = k.n * k.size) {i j : Nat} (hi : i < k.n) (hj : j < k.n) {l : List UInt8} (hl : l.length ≤ k.size) : (k.lay i l).at_ j = if j = i then l ++ (k.at_ i).drop l.length else k.at_ j := by
  have h1 : (i + 1) * k.size ≤ k.n * k.size := Nat.mul_le_mul_right _ hi
  have h2 : (j + 1) * k.size ≤ k.n * k.size := Nat.mul_le_mul_right _ hj
  rw [Nat.add_mul, Nat.one_mul] at h1 h2
  have hd : (k.fast.take (i * k.size)).length = i * k.size := by rw [List.length_take]; omega
  by_cases hji : j = i
  · subst hji
    rw [if_pos rfl]
    simp only [Dsk.at_, Dsk.lay]
    rw [List.append_assoc, List.drop_left' hd, List.take_append, List.take_of_length_le hl, List.drop_take, List.drop_drop]
  · rw [if_neg hji]
    simp only [Dsk.at_, Dsk.lay]
    apply List.ext_getElem?
    intro x
    by_cases hx : x < k.size
    · rw [List.getElem?_take, List.getElem?_take, if_pos hx, if_pos hx, List.getElem?_drop, List.getElem?_drop, List.append_assoc]
      rcases Nat.lt_or_gt_of_ne hji with hlt | hgt
      · have h3 : (j + 1) * k.size ≤ i * k.size := Nat.mul_le_mul_right _ hlt
        rw [Nat.add_mul, Nat.one_mul] at h3
        rw [List.getElem?_append_left (by omega), List.getElem?_take, if_pos (by omega)]
      · have h3 : (i + 1) * k.size ≤ j * k.size := Nat.mul_le_mul_right _ hgt
        rw [Nat.add_mul, Nat.one_mul] at h3
        rw [List.getElem?_append_right (by omega), List.getElem?_append_right (by omega), List.getElem?_drop]
        congr 1
        omega
    · rw [List.getElem?_eq_none (by simp; omega), List.getElem?_eq_none (by simp; omega)]
theorem below_trans2 {a b c : World} (h1 : Below a.heap.size a b) (h2 : Below b.heap.size b c) : Below a.heap.size a c := h1.trans (h2.mono h1.size)
section
variable {w w' : World} {d fb lb bb c : Nat} {k : Dsk} {X : Nat → Prop}
theorem Read_range (h : OnDisk X w d fb lb bb c k) (i m : Int) (hi2 : -9223372036854775808 ≤ i ∧ i ≤ 9223372036854775807) (hi : ¬ (0 ≤ i ∧ 0 ≤ m ∧ i ≤ k.n ∧ m ≤ k.n - i)) : Calls Tryz.prog 45 #[.pointer (some ⟨d, 0, none⟩), .int .i64 i, .int .i64 m] w fun e w' => e = .returned (.tuple #[.slice none 0 0, .int .i64 5]) ∧ w' = w := by
  have HMADE := Lib.hid (disk_made h)
  have hin := in_any d (k.n : Int) i m w (h.cell 0) (by omega) (by have := h.n2; omega) hi2.1 hi2.2
  rw [decide_eq_false hi] at hin
  have HIN := Lib.hid hin
  clear h hin hi hi2
  go_enter Tryz.func45, Tryz.ntmps45
  go_wp2_with (first
    | (go_at_call 40; go_must (refine HMADE.out.mono ?_; rintro e wx ⟨rfl, hwx⟩; obtain rfl := hwx.symm))
    | (go_at_call 71; go_must (refine HIN.out.mono ?_; rintro e wx ⟨rfl, hwx⟩; obtain rfl := hwx.symm)))
  go_ret2
  exact ⟨rfl, rfl⟩
theorem Write_arg (h : OnDisk X w d fb lb bb c k) (A : Option Addr) (n c' : Nat) (i : Int) (hn : n ≤ 9223372036854775807) (hm : ¬ n % k.size = 0) : Calls Tryz.prog 39 #[.pointer (some ⟨d, 0, none⟩), .int .i64 i, .slice A n c'] w fun e w' => e = .returned (.int .i64 1) ∧ Below w.heap.size w w' := by
  have hb : Below w.heap.size w ((w.alloc (.cells #[.pointer (some ⟨d, 0, none⟩)] 36)).alloc (.cells #[.int .i64 i] 3)) := ((Below.refl _ w).alloc (Nat.le_refl _) _).alloc (by simp) _
  have HMADE := Lib.hid (disk_made (h.below hb))
  have d1 : ((w.alloc (.cells #[.pointer (some ⟨d, 0, none⟩)] 36)).alloc (.cells #[.int .i64 i] 3)).cell? ⟨d, 1, none⟩ = some (.int .i64 (k.size : Int)) := (h.below hb).cell 1
  have hs1 := h.s1
  have HB := Lib.hid hb
  have hm2 : ¬ ((n : Int) % (k.size : Int) = 0) := by omega
  have hm3 : ((n : Int) % (k.size : Int) == 0) = false := by rw [beq_eq_false_iff_ne]; exact hm2
  clear h hb hm
  go_enter Tryz.func39, Tryz.ntmps39
  go_wp2_with (go_at_call 40; go_must (refine HMADE.out.mono ?_; rintro e wx ⟨rfl, hwx⟩; obtain rfl := hwx.symm))
  go_ret
  exact ⟨rfl, HB.out⟩
set_option maxHeartbeats 1000000 in
theorem Write_range (h : OnDisk X w d fb lb bb c k) (A : Option Addr) (n c' m : Nat) (i : Int) (hn : n ≤ 9223372036854775807) (hm : n = m * k.size) (hi2 : -9223372036854775808 ≤ i ∧ i ≤ 9223372036854775807) (hi : ¬ (0 ≤ i ∧ i ≤ k.n ∧ (m : Int) ≤ k.n - i)) : Calls Tryz.prog 39 #[.pointer (some ⟨d, 0, none⟩), .int .i64 i, .slice A n c'] w fun e w' => e = .returned (.int .i64 5) ∧ Below w.heap.size w w' := by
  have hb : Below w.heap.size w ((w.alloc (.cells #[.pointer (some ⟨d, 0, none⟩)] 36)).alloc (.cells #[.int .i64 i] 3)) := ((Below.refl _ w).alloc (Nat.le_refl _) _).alloc (by simp) _
  have H0 := h.below hb
  have HMADE := Lib.hid (disk_made H0)
  have hin := fun q : Nat => in_any d (k.n : Int) i (m : Int) _ ((H0.below (below_drewN (Below.refl _ _) q)).cell 0) (by omega) (by have := h.n2; omega) hi2.1 hi2.2
  rw [show decide ((0 : Int) ≤ i ∧ (0 : Int) ≤ m ∧ i ≤ k.n ∧ (m : Int) ≤ k.n - i) = false from decide_eq_false (by omega)] at hin
  have HIN := Lib.hid hin
  have d1 : ((w.alloc (.cells #[.pointer (some ⟨d, 0, none⟩)] 36)).alloc (.cells #[.int .i64 i] 3)).cell? ⟨d, 1, none⟩ = some (.int .i64 (k.size : Int)) := H0.cell 1
  have q0 := blk_alloc (blk_new w (.cells #[.pointer (some ⟨d, 0, none⟩)] 36)) (.cells #[.int .i64 i] 3)
  have q1 := blk_new (w.alloc (.cells #[.pointer (some ⟨d, 0, none⟩)] 36)) (.cells #[.int .i64 i] 3)
  simp only [World.size_alloc] at q1
  have g0 : ((w.alloc (.cells #[.pointer (some ⟨d, 0, none⟩)] 36)).alloc (.cells #[.int .i64 i] 3)).cell? ⟨w.heap.size, 0, none⟩ = some (.pointer (some ⟨d, 0, none⟩)) := blk_cell q0 0
  have g1 : ((w.alloc (.cells #[.pointer (some ⟨d, 0, none⟩)] 36)).alloc (.cells #[.int .i64 i] 3)).cell? ⟨w.heap.size + 1, 0, none⟩ = some (.int .i64 i) := blk_cell q1 0
  have hs1 := h.s1
  have HB := Lib.hid hb
  have hmb : m ≤ 9223372036854775807 := by have := Nat.le_mul_of_pos_right m hs1; omega
  have hs2 := h.s2
  have hrem : (n : Int) % (k.size : Int) = 0 := by rw [hm]; simp
  have hquo : (n : Int) / (k.size : Int) = (m : Int) := by rw [hm]; push_cast; rw [Int.mul_ediv_cancel _ (by omega)]
  clear h hb hm H0 hin hi hi2 q0 q1
  go_enter Tryz.func39, Tryz.ntmps39
  go_wp2_with (go_at_call 40; go_must (refine HMADE.out.mono ?_; rintro e wx ⟨rfl, hwx⟩; obtain rfl := hwx.symm))
  go_quiet ((go_at_call 71; refine Calls.quiet_of_same (HIN.out _)))
  rename_i nq
  have HF := Lib.hid (below_trans2 HB.out (below_drewN (Below.refl _ _) nq))
  clear HMADE HIN d1 g0 g1 HB
  generalize ((w.alloc (.cells #[.pointer (some ⟨d, 0, none⟩)] 36)).alloc (.cells #[.int .i64 i] 3)).drewN nq = W1 at HF ⊢
  go_wp2
  go_ret
  exact ⟨rfl, HF.out⟩
set_option maxHeartbeats 1000000 in
theorem Write_power (h : OnDisk X w d fb lb bb c k) (A : Option Addr) (n c' m i : Nat) (hn : n ≤ 9223372036854775807) (hm : n = m * k.size) (hi : i + m ≤ k.n) (hon : ¬ k.on) : Calls Tryz.prog 39 #[.pointer (some ⟨d, 0, none⟩), .int .i64 (i : Int), .slice A n c'] w fun e w' => e = .returned (.int .i64 82) ∧ Below w.heap.size w w' := by
  have hb : Below w.heap.size w ((w.alloc (.cells #[.pointer (some ⟨d, 0, none⟩)] 36)).alloc (.cells #[.int .i64 (i : Int)] 3)) := ((Below.refl _ w).alloc (Nat.le_refl _) _).alloc (by simp) _
  have H0 := h.below hb
  have hn2 := h.n2
  have HMADE := Lib.hid (disk_made H0)
  have hin := fun q : Nat => in_any d (k.n : Int) (i : Int) (m : Int) _ ((H0.below (below_drewN (Below.refl _ _) q)).cell 0) (by omega) (by omega) (by omega) (by omega)
  rw [show decide ((0 : Int) ≤ i ∧ (0 : Int) ≤ m ∧ (i : Int) ≤ k.n ∧ (m : Int) ≤ k.n - i) = true from decide_eq_true (by omega)] at hin
  have HIN := Lib.hid hin
  have HP := Lib.hid (fun q : Nat => power_out (H0.below (below_drewN (Below.refl _ _) q)) hon)
  have d1 : ((w.alloc (.cells #[.pointer (some ⟨d, 0, none⟩)] 36)).alloc (.cells #[.int .i64 (i : Int)] 3)).cell? ⟨d, 1, none⟩ = some (.int .i64 (k.size : Int)) := H0.cell 1
  have q0 := blk_alloc (blk_new w (.cells #[.pointer (some ⟨d, 0, none⟩)] 36)) (.cells #[.int .i64 (i : Int)] 3)
  have q1 := blk_new (w.alloc (.cells #[.pointer (some ⟨d, 0, none⟩)] 36)) (.cells #[.int .i64 (i : Int)] 3)
  simp only [World.size_alloc] at q1
  have g0 : ((w.alloc (.cells #[.pointer (some ⟨d, 0, none⟩)] 36)).alloc (.cells #[.int .i64 (i : Int)] 3)).cell? ⟨w.heap.size, 0, none⟩ = some (.pointer (some ⟨d, 0, none⟩)) := blk_cell q0 0
  have g1 : ((w.alloc (.cells #[.pointer (some ⟨d, 0, none⟩)] 36)).alloc (.cells #[.int .i64 (i : Int)] 3)).cell? ⟨w.heap.size + 1, 0, none⟩ = some (.int .i64 (i : Int)) := blk_cell q1 0
  have hs1 := h.s1
  have HB := Lib.hid hb
  have hmb : m ≤ 9223372036854775807 := by have := Nat.le_mul_of_pos_right m hs1; omega
  have hs2 := h.s2
  have hrem : (n : Int) % (k.size : Int) = 0 := by rw [hm]; simp
  have hquo : (n : Int) / (k.size : Int) = (m : Int) := by rw [hm]; push_cast; rw [Int.mul_ediv_cancel _ (by omega)]
  clear h hb hm H0 hin hi q0 q1 hon
  go_enter Tryz.func39, Tryz.ntmps39
  go_wp2_with (go_at_call 40; go_must (refine HMADE.out.mono ?_; rintro e wx ⟨rfl, hwx⟩; obtain rfl := hwx.symm))
  go_quiet ((go_at_call 71; refine Calls.quiet_of_same (HIN.out _)))
  rename_i nq
  have HF := Lib.hid (below_trans2 HB.out (below_drewN (Below.refl _ _) nq))
  have HPW := Lib.hid (HP.out nq)
  have g2 : (((w.alloc (.cells #[.pointer (some ⟨d, 0, none⟩)] 36)).alloc (.cells #[.int .i64 (i : Int)] 3)).drewN nq).cell? ⟨w.heap.size, 0, none⟩ = some (.pointer (some ⟨d, 0, none⟩)) := g0
  clear HMADE HIN d1 g0 g1 HB HP
  generalize ((w.alloc (.cells #[.pointer (some ⟨d, 0, none⟩)] 36)).alloc (.cells #[.int .i64 (i : Int)] 3)).drewN nq = W1 at HF HPW g2 ⊢
  go_wp2_with (go_at_call 41; go_must (refine HPW.out.mono ?_; rintro e wx ⟨rfl, hwx⟩; obtain rfl := hwx.symm))
  go_ret
  exact ⟨rfl, HF.out⟩
end
end Go.Proofs.YtaldjmhikebecaaGreat
