/- Layer 8 (sector): New. -/
import Derived.Test.YtaldjmhikebecaaGreatDisk
import Derived.Carry
import Derived.Deep.OwnRows
import Derived.Laws.OwnMore
namespace Go.Proofs.YtaldjmhikebecaaGreat
open Go Go.RowKit
set_option maxRecDepth 100000
set_option linter.unusedVariables false
attribute [local go_sem] Oper.semAt_some
def MadeDisk (w : World) (n s : Nat) (e : Ending) (w' : World) : Prop :=
  ∃ d fb lb bb, e = .returned (.tuple #[.pointer (some ⟨d, 0, none⟩), .int .i64 0]) ∧ OnDisk (fun b => b = d ∨ b = fb) w' d fb lb bb 0 (Dsk.new n s) ∧ (w.heap.size ≤ d ∧ w.heap.size ≤ fb ∧ w.heap.size ≤ lb ∧ w.heap.size ≤ bb) ∧ Below w.heap.size w w'
theorem made_zeros (p : Nat) : madeCells #[.int .u8 0] p = (bytes (List.replicate p 0)).toArray := by
  apply Array.toList_inj.1
  rw [toList_madeCells_one]
  simp [bytes, byt]
theorem made_disk (w : World) (n s p : Nat) (hp : p = n * s) (hn1 : 1 ≤ n) (hn2 : n ≤ 65536) (hs1 : 1 ≤ s) (hs2 : s ≤ 8192) :
    MadeDisk w n s (.returned (.tuple #[.pointer (some ⟨w.heap.size + 1 + 1 + 1, 0, none⟩), .int .i64 0])) ((((w.alloc (.cells (madeCells #[.int .u8 0] p) 5)).alloc (.map #[] 0)).alloc (.map #[] 0)).alloc (.cells #[.int .i64 (n : Int), .int .i64 (s : Int), .slice (some ⟨w.heap.size, 0, none⟩) p p, .map (some (w.heap.size + 1)), .map (some (w.heap.size + 1 + 1)), .bool false, .int .i64 0] 80)) := by
  subst hp
  have z1 : (w.alloc (.cells (madeCells #[.int .u8 0] (n * s)) 5)).heap.size = w.heap.size + 1 := by simp
  have z2 : ((w.alloc (.cells (madeCells #[.int .u8 0] (n * s)) 5)).alloc (.map #[] 0)).heap.size = w.heap.size + 1 + 1 := by simp
  have z3 : (((w.alloc (.cells (madeCells #[.int .u8 0] (n * s)) 5)).alloc (.map #[] 0)).alloc (.map #[] 0)).heap.size = w.heap.size + 1 + 1 + 1 := by simp
  have h0 := blk_new w (.cells (madeCells #[.int .u8 0] (n * s)) 5)
  have h1 := World.ownsMap_made (H := Value) (w.alloc (.cells (madeCells #[.int .u8 0] (n * s)) 5)) Tryz.prog 3 rawR
  have h2 := World.ownsMap_made (H := Value) ((w.alloc (.cells (madeCells #[.int .u8 0] (n * s)) 5)).alloc (.map #[] 0)) Tryz.prog 3 unitElem
  have h3 := blk_new (((w.alloc (.cells (madeCells #[.int .u8 0] (n * s)) 5)).alloc (.map #[] 0)).alloc (.map #[] 0)) (.cells #[.int .i64 (n : Int), .int .i64 (s : Int), .slice (some ⟨w.heap.size, 0, none⟩) (n * s) (n * s), .map (some (w.heap.size + 1)), .map (some (w.heap.size + 1 + 1)), .bool false, .int .i64 0] 80)
  rw [z1] at h1
  rw [z2] at h2
  rw [z3] at h3
  refine ⟨w.heap.size + 1 + 1 + 1, w.heap.size, w.heap.size + 1, w.heap.size + 1 + 1, rfl, ?_, ⟨by omega, by omega, by omega, by omega⟩, ?_⟩
  · exact {
      blk := h3
      fst := by
        have := blk_alloc (blk_alloc (blk_alloc h0 (.map #[] 0)) (.map #[] 0)) (.cells #[.int .i64 (n : Int), .int .i64 (s : Int), .slice (some ⟨w.heap.size, 0, none⟩) (n * s) (n * s), .map (some (w.heap.size + 1)), .map (some (w.heap.size + 1 + 1)), .bool false, .int .i64 0] 80)
        rw [this, made_zeros]
        simp [Dsk.new]
      spm := by have := Nat.mul_le_mul hn2 hs2; simp only [Dsk.new]; unfold maxLen; omega
      len := by simp [Dsk.new]
      n1 := hn1
      n2 := hn2
      s1 := hs1
      s2 := hs2
      lf := by simp [Dsk.new]
      cnt := by omega
      ne := by omega
      xd := .inl rfl
      xf := .inr rfl
      xlt := by rintro b (rfl | rfl) <;> simp <;> omega
      loo := ⟨_, (h1.alloc _).alloc _, fun i _ => rfl, fun kl h => by cases h⟩
      bd := ⟨_, 0, h2.alloc _, Nat.le_refl _, fun i _ => rfl⟩ }
  · exact ((((Below.refl _ w).alloc (Nat.le_refl _) _).alloc (by simp) _).alloc (by simp; omega) _).alloc (by simp; omega) _
theorem New_ok (n s : Nat) (w : World) (hn1 : 1 ≤ n) (hn2 : n ≤ 65536) (hs1 : 1 ≤ s) (hs2 : s ≤ 8192) :
    Calls Tryz.prog 11 #[.int .i64 (n : Int), .int .i64 (s : Int)] w (MadeDisk w n s) := by
  have hmul : n * s ≤ 65536 * 8192 := Nat.mul_le_mul hn2 hs2
  obtain ⟨p, hp⟩ : ∃ p, p = n * s := ⟨_, rfl⟩
  have hw : IntKind.i64.wrap ((n : Int) * (s : Int)) = (p : Int) := by rw [IntKind.wrap_i64, ← Int.natCast_mul]; omega
  have hmk := run_make_row' (P := Tryz.prog) 51 5 (.int .u8 0) 1 Tryz.underlying51 info_u8 rfl .i64 .i64 p (by omega) (by omega)
  have HM := Lib.hid (made_disk w n s p hp hn1 hn2 hs1 hs2)
  clear hp hmul
  have hmm := @run_makeMap Tryz.prog
  have hmin : ¬ (min (n : Int) (s : Int)) < 1 := by omega
  go_enter Tryz.func11, Tryz.ntmps11
  go_wp2
  all_goals
    go_ret2
    exact HM.out
end Go.Proofs.YtaldjmhikebecaaGreat
