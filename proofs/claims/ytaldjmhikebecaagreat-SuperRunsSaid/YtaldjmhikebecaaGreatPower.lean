/- Layer 8 (sector): power. -/
import Derived.Test.YtaldjmhikebecaaGreatRead
namespace Go.Proofs.YtaldjmhikebecaaGreat
open Go Go.RowKit
set_option maxRecDepth 100000
set_option linter.unusedVariables false
attribute [local go_sem] Oper.semAt_some
section
variable {w w' : World} {d fb lb bb c : Nat} {k : Dsk} {X : Nat → Prop}
/-- The disk's own block is written: only its two cells for the power may turn. -/
theorem OnDisk.turn (h : OnDisk X w d fb lb bb c k) (k' : Dsk) (e : k' = { k with set := k'.set, left := k'.left }) (hlf : k'.left ≤ 9223372036854775807) (t : Touch (· = d) w w') (hd : w'.heap[d]? = some (.cells (k'.cells fb lb bb) 80 (0, 0))) : OnDisk X w' d fb lb bb c k' := by
  have hne := h.ne_df
  obtain ⟨D, h1, h2⟩ := h.loo
  obtain ⟨E, cb, h3, h4⟩ := h.bd
  obtain ⟨es, cl, hm1⟩ := own_map_obj h1
  obtain ⟨es2, cl2, hm2⟩ := own_map_obj h3
  have n1 : lb ≠ d := fun e => by have := h.blk; rw [← e, hm1] at this; cases this
  have n2 : bb ≠ d := fun e => by have := h.blk; rw [← e, hm2] at this; cases this
  have l2 : LooseAt X w' k D := h2.kept fun A n c l hB hA => t.bs hB fun ad e e2 => hA ad e (e2 ▸ h.xd)
  rw [e]
  exact { blk := by rw [← e]; exact hd, fst := t.blk h.fst (fun e => hne e.symm), spm := h.spm, len := h.len, n1 := h.n1, n2 := h.n2, s1 := h.s1, s2 := h.s2, lf := hlf, cnt := h.cnt, ne := h.ne, xd := h.xd, xf := h.xf, xlt := fun b hb => Nat.lt_of_lt_of_le (h.xlt b hb) t.size, loo := ⟨D, own_map_block h1 (t.block _ h1.lt n1), l2.at_, l2.keys⟩, bd := ⟨E, cb, own_map_block h3 (t.block _ h3.lt n2), h4⟩ }
theorem OnDisk.less (h : OnDisk X w d fb lb bb c k) : OnDisk X (w.setCell ⟨d, 6, none⟩ (.int .i64 ((k.left - 1 : Nat) : Int))) d fb lb bb c k.less :=
  h.turn k.less rfl (by have := h.lf; simp [Dsk.less]; omega) (Touch.of_set w _ rfl) (blk_set h.blk 6 _)
/-- Is there power? -/
def Dsk.on (k : Dsk) : Prop := ¬ (k.set = true ∧ k.left = 0)
instance (k : Dsk) : Decidable k.on := by unfold Dsk.on; infer_instance
theorem power_on (h : OnDisk X w d fb lb bb c k) (hon : k.on) : Calls Tryz.prog 41 #[.pointer (some ⟨d, 0, none⟩)] w fun e w' => e = .returned (.int .i64 0) ∧ w' = w.setCell ⟨d, 6, none⟩ (.int .i64 ((k.left - 1 : Nat) : Int)) := by
  have h5 : w.cell? ⟨d, 5, none⟩ = some (.bool k.set) := h.cell 5
  have h6 : w.cell? ⟨d, 6, none⟩ = some (.int .i64 (k.left : Int)) := h.cell 6
  have hf : w.frozen? ⟨d, 6, none⟩ = false := h.frozen 6
  have hlf := h.lf
  unfold Dsk.on at hon
  clear h
  generalize k.set = s at h5 hon
  generalize k.left = n at h6 hon hlf ⊢
  obtain ⟨x, hx⟩ : ∃ x : Int, x = (n : Int) - 1 := ⟨_, rfl⟩
  have hw : IntKind.i64.wrap ((n : Int) - 1) = x := by rw [IntKind.wrap_i64]; omega
  obtain ⟨y, hy⟩ : ∃ y : Int, y = ((n - 1 : Nat) : Int) := ⟨_, rfl⟩
  rw [← hy]
  rcases Nat.eq_zero_or_pos n with h0 | h0
  · subst h0
    have hs : s = false := by cases s <;> simp_all
    subst hs
    simp at hx hy
    subst hx hy
    go_enter Tryz.func41, Tryz.ntmps41
    go_wp2
    go_ret
    exact ⟨rfl, rfl⟩
  · have hxy : x = y := by omega
    subst hxy
    have h1 : ((n : Int) == 0) = false := by rw [beq_eq_false_iff_ne]; omega
    have h2 : ¬ x < 0 := by omega
    have hmax : max x 0 = x := by omega
    clear hx hy hlf hon h0
    cases s
    · go_enter Tryz.func41, Tryz.ntmps41
      go_wp2
      go_ret
      exact ⟨rfl, by simp⟩
    · go_enter Tryz.func41, Tryz.ntmps41
      go_wp2
      go_ret
      exact ⟨rfl, by simp⟩
theorem power_out (h : OnDisk X w d fb lb bb c k) (hon : ¬ k.on) : Calls Tryz.prog 41 #[.pointer (some ⟨d, 0, none⟩)] w fun e w' => e = .returned (.int .i64 82) ∧ w' = w := by
  have hs := Classical.not_not.1 hon
  have h5 : w.cell? ⟨d, 5, none⟩ = some (.bool true) := hs.1 ▸ h.cell 5
  have h6 : w.cell? ⟨d, 6, none⟩ = some (.int .i64 0) := by have := h.cell 6; simp [Dsk.cells, hs.2] at this; exact this
  clear h hon hs
  go_enter Tryz.func41, Tryz.ntmps41
  go_wp2
  go_ret
  exact ⟨rfl, rfl⟩
end
end Go.Proofs.YtaldjmhikebecaaGreat
