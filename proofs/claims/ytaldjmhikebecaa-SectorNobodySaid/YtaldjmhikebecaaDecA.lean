/- Layer 9 (super): Decode, all of it; the reference's where the frame is refused or is no superblock's. -/
import Derived.Test.YtaldjmhikebecaaDecO
namespace Go.Proofs.Ytaldjmhikebecaa
open Go Go.RowKit
set_option maxRecDepth 100000
set_option linter.unusedVariables false
attribute [local go_sem] Oper.semAt_some
theorem readF_err {l : List UInt8} {c : Int} (h : readF l = .err c) : c ≠ 0 := by
  unfold readF at h
  repeat' split at h
  all_goals (cases h <;> decide)
theorem readF_ser {l : List UInt8} {k : UInt8} {ser : Nat} {b : List UInt8} (h : readF l = .ok k ser b) : ser < 18446744073709551616 := by
  unfold readF at h
  repeat' split at h
  all_goals cases h
  have h1 := unle_lt ((l.drop 4).take 8)
  have h2 : 256 ^ ((l.drop 4).take 8).length ≤ 256 ^ 8 := Nat.pow_le_pow_right (by omega) (by simp; omega)
  omega
theorem decode_err {l : List UInt8} {c : Int} (h : readF l = .err c) : decode l = (Sup.zero, c) := by unfold decode; rw [h]
theorem decode_bad {l : List UInt8} {k : UInt8} {ser : Nat} {b : List UInt8} (h : readF l = .ok k ser b) (hb : ¬ (k = 1 ∧ b.length = 52)) : decode l = (Sup.zero, 90) := by unfold decode; rw [h]; exact if_neg hb
theorem Decode_any (A : Option Addr) (n c : Nat) (l : List UInt8) (w : World) (h : Bs w A n c l) :
    Calls Try.prog 14 #[.slice A n c] w (RetS w (decode l)) := by
  cases hr : readF l with
  | err code => rw [decode_err hr]; exact Decode_err A n c l w h code (readF_err hr) hr
  | ok k ser b =>
    by_cases hb : k = 1 ∧ b.length = 52
    · obtain ⟨rfl, hl⟩ := hb
      exact Decode_run A n c l w h ser b (readF_ser hr) hr hl
    · rw [decode_bad hr hb]
      exact Decode_bad A n c l w h k ser b hr hb
set_option maxHeartbeats 4000000 in
theorem RDecode_err (A : Option Addr) (n c : Nat) (l : List UInt8) (w : World) (h : Bs w A n c l) (code : Int) (hc0 : code ≠ 0) (hr : readF l = .err code) :
    Calls Try.prog 15 #[.slice A n c] w (RetS w (Sup.zero, code)) := by
  have hz := Lib.hid (show Sup.zero.cells = #[.int .u64 0, .int .i64 0, .int .i64 0, .int .i64 0, .int .i64 0, .int .i64 0, .int .i64 0, .int .i64 0, .int .u32 0] from rfl)
  have hb : (code == 0) = false := by rw [beq_eq_false_iff_ne]; exact hc0
  have hread := Lib.hid (fun (W : World) (hW : Bs W A n c l) => RRead_any A n c l 0 0 W hW rfl (Nat.zero_le _))
  have H := Lib.hid h
  have HR := Lib.hid hr
  clear hc0 hr h
  go_enter Try.func15, Try.ntmps15
  go_wp2_with (first
    | (go_at_call 50; go_must (refine (hread.out _ (H.out.alloc _)).mono ?_; simp only [List.drop_zero, HR.out, RetF]; rintro e wx ⟨rfl, hbx⟩; have HB := Lib.hid hbx; have HX := Lib.hid (blk_below (blk_new _ _) hbx); clear hbx; have hsz := blk_lt HX.out))
    | (refine wpList_store_blk rfl 25 _ _ rfl (b := w.heap.size) rfl rfl _ rfl rfl (by decide) (blk_alloc HX.out _) rfl ?_; go_must (intro w2 hb2 hg2 hz2)))
  refine bodyPost_ret (results_blk 2 3 25 rfl rfl rfl _ rfl rfl (fun _ => by simp [go_sem, isAgg]) hb2) rfl ⟨?_, ?_⟩
  · simp only [hz.out]; rfl
  · exact grown_bel (bel_in HB.out) hg2 (Nat.le_refl _)
theorem RDecode_bad (A : Option Addr) (n c : Nat) (l : List UInt8) (w : World) (h : Bs w A n c l) (k : UInt8) (ser : Nat) (b : List UInt8) (hr : readF l = .ok k ser b) (hbad : ¬ (k = 1 ∧ b.length = 52)) :
    Calls Try.prog 15 #[.slice A n c] w (RetS w (Sup.zero, 90)) := by
  have hz := Lib.hid (show Sup.zero.cells = #[.int .u64 0, .int .i64 0, .int .i64 0, .int .i64 0, .int .i64 0, .int .i64 0, .int .i64 0, .int .i64 0, .int .u32 0] from rfl)
  have hread := Lib.hid (fun (W : World) (hW : Bs W A n c l) => RRead_any A n c l 0 0 W hW rfl (Nat.zero_le _))
  have H := Lib.hid h
  have HR := Lib.hid hr
  have hbad := Lib.hid hbad
  clear hr h
  have hcase : ((k.toNat : Int) == 1) = false ∨ (((k.toNat : Int) == 1) = true ∧ Hid (b.length ≠ 52)) := by
    by_cases hk : k = 1
    · subst hk
      exact .inr ⟨rfl, Lib.hid fun e => hbad.out ⟨rfl, e⟩⟩
    · refine .inl ?_
      rw [beq_eq_false_iff_ne]
      intro e
      apply hk
      apply UInt8.toNat_inj.1
      simp only [UInt8.toNat_one]
      omega
  rcases hcase with hk | ⟨hk, hlen⟩
  · go_enter Try.func15, Try.ntmps15
    go_wp2_with (first
      | (go_at_call 50; go_must (refine (hread.out _ (H.out.alloc _)).mono ?_; simp only [List.drop_zero, HR.out, RetF]; rintro e wx ⟨A3, nn, c3, rfl, hbb, hdd, hbx⟩; have HB := Lib.hid hbx; have HX := Lib.hid (blk_below (blk_new _ _) hbx); clear hbx hbb hdd; have hsz := blk_lt HX.out))
      | (refine wpList_store_blk rfl 25 _ _ rfl (b := w.heap.size) rfl rfl _ rfl rfl (by decide) (blk_alloc HX.out _) rfl ?_; go_must (intro w2 hb2 hg2 hz2)))
    refine bodyPost_ret (results_blk 2 3 25 rfl rfl rfl _ rfl rfl (fun _ => by simp [go_sem, isAgg]) hb2) rfl ⟨?_, ?_⟩
    · simp only [hz.out]; rfl
    · exact grown_bel (bel_in HB.out) hg2 (Nat.le_refl _)
  · go_enter Try.func15, Try.ntmps15
    go_wp2_with (first
      | (go_at_call 50; go_must (refine (hread.out _ (H.out.alloc _)).mono ?_; simp only [List.drop_zero, HR.out, RetF]; rintro e wx ⟨A3, nn, c3, rfl, hbb, hdd, hbx⟩; have hn : ((nn : Int) == 52) = false := (by rw [beq_eq_false_iff_ne]; intro e; exact hlen.out (by have := hbb.len; omega)); have HB := Lib.hid hbx; have HX := Lib.hid (blk_below (blk_new _ _) hbx); clear hbx hbb hdd; have hsz := blk_lt HX.out))
      | (refine wpList_store_blk rfl 25 _ _ rfl (b := w.heap.size) rfl rfl _ rfl rfl (by decide) (blk_alloc HX.out _) rfl ?_; go_must (intro w2 hb2 hg2 hz2)))
    all_goals
      refine bodyPost_ret (results_blk 2 3 25 rfl rfl rfl _ rfl rfl (fun _ => by simp [go_sem, isAgg]) hb2) rfl ⟨?_, ?_⟩
      · simp only [hz.out]; rfl
      · exact grown_bel (bel_in HB.out) hg2 (Nat.le_refl _)
end Go.Proofs.Ytaldjmhikebecaa
