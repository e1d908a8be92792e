/- SectorNobody: its walk. -/
import Derived.Test.YtaldjmhikebecaaNobody
import Derived.Test.YtaldjmhikebecaaBack
namespace Go.Proofs.Ytaldjmhikebecaa
open Go Go.RowKit
set_option maxRecDepth 100000
set_option linter.unusedVariables false
attribute [local go_sem] Oper.semAt_some eq_nil_bytes
set_option maxHeartbeats 4000000 in
theorem SectorNobody_walk (kd i n torn cut : Int) (BA KA : Option Addr) (bn bc kn kc : Nat) (w : World) : Calls Try.prog 10 #[.agg #[.int .i64 kd, .int .i64 i, .int .i64 n, .slice BA bn bc, .slice KA kn kc, .int .i64 torn, .int .i64 cut]] w (RetTrue w) := by
  obtain ⟨vb, hvb⟩ : ∃ vb : Value, vb = .slice BA bn bc := ⟨_, rfl⟩
  obtain ⟨vk, hvk⟩ : ∃ vk : Value, vk = .slice KA kn kc := ⟨_, rfl⟩
  have HVB := Lib.hid hvb
  have HVK := Lib.hid hvk
  have q0 := blk_alloc (blk_alloc (blk_new w (.cells #[.int .i64 kd, .int .i64 i, .int .i64 n, .slice BA bn bc, .slice KA kn kc, .int .i64 torn, .int .i64 cut] 46)) (.cells #[.int .i64 0, .int .i64 0, .slice none 0 0, .map none, .map none, .bool false, .int .i64 0] 68)) (.cells #[.pointer none, .pointer (some ⟨w.heap.size + 1, 0, none⟩)] 37)
  have q1 := blk_alloc (blk_new (w.alloc (.cells #[.int .i64 kd, .int .i64 i, .int .i64 n, .slice BA bn bc, .slice KA kn kc, .int .i64 torn, .int .i64 cut] 46)) (.cells #[.int .i64 0, .int .i64 0, .slice none 0 0, .map none, .map none, .bool false, .int .i64 0] 68)) (.cells #[.pointer none, .pointer (some ⟨w.heap.size + 1, 0, none⟩)] 37)
  have q2 := blk_new ((w.alloc (.cells #[.int .i64 kd, .int .i64 i, .int .i64 n, .slice BA bn bc, .slice KA kn kc, .int .i64 torn, .int .i64 cut] 46)).alloc (.cells #[.int .i64 0, .int .i64 0, .slice none 0 0, .map none, .map none, .bool false, .int .i64 0] 68)) (.cells #[.pointer none, .pointer (some ⟨w.heap.size + 1, 0, none⟩)] 37)
  simp only [World.size_alloc] at q1 q2
  have HQ0 := Lib.hid q0
  have HQ1 := Lib.hid q1
  have HQ2 := Lib.hid q2
  have HB := Lib.hid ((((Below.refl _ w).alloc (Nat.le_refl _) (.cells #[.int .i64 kd, .int .i64 i, .int .i64 n, .slice BA bn bc, .slice KA kn kc, .int .i64 torn, .int .i64 cut] 46)).alloc (by simp) (.cells #[.int .i64 0, .int .i64 0, .slice none 0 0, .map none, .map none, .bool false, .int .i64 0] 68)).alloc (by simp; omega) (.cells #[.pointer none, .pointer (some ⟨w.heap.size + 1, 0, none⟩)] 37))
  clear q0 q1 q2 hvb hvk
  go_enter Try.func10, Try.ntmps10
  go_wp2
  go_loopw [15] (fun i' wr => ∃ j : Nat, j ≤ 2 ∧ i' = .int .i64 (j : Int) ∧ Hid (wr.heap[w.heap.size]? = some (.cells #[.int .i64 kd, .int .i64 i, .int .i64 n, .slice BA bn bc, .slice KA kn kc, .int .i64 torn, .int .i64 cut] 46 (0, 0))) ∧ Hid (wr.heap[w.heap.size + 1]? = some (.cells #[.int .i64 0, .int .i64 0, .slice none 0 0, .map none, .map none, .bool false, .int .i64 0] 68 (0, 0))) ∧ Hid (wr.heap[w.heap.size + 1 + 1]? = some (.cells #[.pointer none, .pointer (some ⟨w.heap.size + 1, 0, none⟩)] 37 (0, 0))) ∧ Hid (Below w.heap.size w wr)) (fun i' _ => 2 - (intOf i').toNat)
  case atStart => exact ⟨0, Nat.zero_le _, rfl, HQ0, HQ1, HQ2, HB⟩
  case round =>
    obtain ⟨j, hj, rfl, hx, hz, hp, hb⟩ := hrel
    by_cases hlt : j < 2
    · obtain ⟨p, hpc, hno⟩ : ∃ p, wr.cell? ⟨w.heap.size + 1 + 1, j, none⟩ = some (.pointer p) ∧ NoDisk wr p := by
        match j, hlt with
        | 0, _ => exact ⟨none, blk_cell hp.out 0, .inl rfl⟩
        | 1, _ => exact ⟨some ⟨w.heap.size + 1, 0, none⟩, blk_cell hp.out 1, .inr ⟨_, rfl, blk_cell hz.out 1⟩⟩
      have HNO := Lib.hid hno
      rw [← HVB.out, ← HVK.out] at hx
      have x1 : wr.cell? ⟨w.heap.size, 1, none⟩ = some (.int .i64 i) := blk_cell hx.out 1
      have x2 : wr.cell? ⟨w.heap.size, 2, none⟩ = some (.int .i64 n) := blk_cell hx.out 2
      have x3 : wr.cell? ⟨w.heap.size, 3, none⟩ = some (vb) := blk_cell hx.out 3
      have x4 : wr.cell? ⟨w.heap.size, 4, none⟩ = some (vk) := blk_cell hx.out 4
      have x5 : wr.cell? ⟨w.heap.size, 5, none⟩ = some (.int .i64 torn) := blk_cell hx.out 5
      have x6 : wr.cell? ⟨w.heap.size, 6, none⟩ = some (.int .i64 cut) := blk_cell hx.out 6
      clear hno
      go_wp2_with (first
        | (go_at_call 22; go_must (refine (Read_no HNO.out i n).mono ?_; rintro e wx ⟨rfl, hwx⟩; obtain rfl := hwx.symm))
        | (go_at_call 32; go_must (refine (Shape_no HNO.out).mono ?_; rintro e wx ⟨rfl, hwx⟩; obtain rfl := hwx.symm))
        | (go_at_call 27; go_must (refine (Write_no HNO.out i vb).mono ?_; rintro e w5 ⟨rfl, hb5⟩; have HN5 := Lib.hid (HNO.out.below hb5); have HX5 := Lib.hid (blk_below hx.out hb5); have HZ5 := Lib.hid (blk_below hz.out hb5); have HP5 := Lib.hid (blk_below hp.out hb5); have HB5 := Lib.hid (hb.out.trans (hb5.mono hb.out.size)); clear hb5 x1 x2 x3 x4 x5 x6 hpc; have y1 : w5.cell? ⟨w.heap.size, 1, none⟩ = some (.int .i64 i) := blk_cell HX5.out 1; have y2 : w5.cell? ⟨w.heap.size, 2, none⟩ = some (.int .i64 n) := blk_cell HX5.out 2; have y3 : w5.cell? ⟨w.heap.size, 3, none⟩ = some (vb) := blk_cell HX5.out 3; have y4 : w5.cell? ⟨w.heap.size, 4, none⟩ = some (vk) := blk_cell HX5.out 4; have y5 : w5.cell? ⟨w.heap.size, 5, none⟩ = some (.int .i64 torn) := blk_cell HX5.out 5; have y6 : w5.cell? ⟨w.heap.size, 6, none⟩ = some (.int .i64 cut) := blk_cell HX5.out 6))
        | (go_at_call 25; go_must (refine (Barrier_no HN5.out).mono ?_; rintro e wx ⟨rfl, hwx⟩; obtain rfl := hwx.symm))
        | (go_at_call 29; go_must (refine (Crash_no HN5.out vk (.int .i64 torn) (.int .i64 cut) (by rw [HVK.out]; rfl) rfl rfl).mono ?_; rintro e w6 ⟨rfl, hb6⟩; have HN6 := Lib.hid (HN5.out.below hb6); have HX6 := Lib.hid (blk_below HX5.out hb6); have HZ6 := Lib.hid (blk_below HZ5.out hb6); have HP6 := Lib.hid (blk_below HP5.out hb6); have HB6 := Lib.hid (HB5.out.trans (hb6.mono HB5.out.size)); clear hb6 y1 y2 y3 y4 y5 y6; have z1 : w6.cell? ⟨w.heap.size, 1, none⟩ = some (.int .i64 i) := blk_cell HX6.out 1; have z2 : w6.cell? ⟨w.heap.size, 2, none⟩ = some (.int .i64 n) := blk_cell HX6.out 2; have z3 : w6.cell? ⟨w.heap.size, 3, none⟩ = some (vb) := blk_cell HX6.out 3; have z4 : w6.cell? ⟨w.heap.size, 4, none⟩ = some (vk) := blk_cell HX6.out 4; have z5 : w6.cell? ⟨w.heap.size, 5, none⟩ = some (.int .i64 torn) := blk_cell HX6.out 5; have z6 : w6.cell? ⟨w.heap.size, 6, none⟩ = some (.int .i64 cut) := blk_cell HX6.out 6))
        | (go_at_call 33; go_must (refine (Spoil_no HN6.out i vb).mono ?_; rintro e wx ⟨rfl, hwx⟩; obtain rfl := hwx.symm))
        | (go_at_call 34; go_must (refine (Bad_no HN6.out i).mono ?_; rintro e wx ⟨rfl, hwx⟩; obtain rfl := hwx.symm))
        | (go_at_call 26; go_must (refine (Copy_no HN6.out).mono ?_; rintro e wx ⟨rfl, hwx⟩; obtain rfl := hwx.symm))
        | (go_at_call 24; go_must (refine (Fuse_no HN6.out n).mono ?_; rintro e wx ⟨rfl, hwx⟩; obtain rfl := hwx.symm))
        | (go_at_call 28; go_must (refine (Loose_no HN6.out).mono ?_; rintro e wx ⟨rfl, hwx⟩; obtain rfl := hwx.symm)))
      go_roundw
      case rel => exact ⟨j + 1, by omega, by go_num, Lib.hid (by rw [← HVB.out, ← HVK.out]; exact HX6.out), HZ6, HP6, HB6⟩
      case measure => simp [intOf]; omega
    · obtain rfl : j = 2 := by omega
      go_wp2_with (go_at_call 19; go_must (refine (awakeS_true _).mono ?_; rintro e w7 ⟨rfl, hb7⟩; have HB7 := Lib.hid (hb.out.trans (hb7.mono hb.out.size)); clear hb7))
      go_ret
      exact ⟨rfl, HB7.out⟩
end Go.Proofs.Ytaldjmhikebecaa
