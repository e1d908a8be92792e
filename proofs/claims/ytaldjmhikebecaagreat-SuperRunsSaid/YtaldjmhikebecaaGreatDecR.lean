/- Layer 9 (super): the reference's Decode of a frame that is a superblock's. -/
import Derived.Deep.RegionHeld3
import Derived.Test.YtaldjmhikebecaaGreatDecO
namespace Go.Proofs.YtaldjmhikebecaaGreat
open Go Go.RowKit
set_option maxRecDepth 100000
set_option linter.unusedVariables false
attribute [local go_sem] Oper.semAt_some
theorem readF_err {l : List UInt8} {c : Int} (h : readF l = .err c) : c ≠ 0 := by
  unfold readF at h
  repeat' split at h
  all_goals (cases h <;> decide)
theorem readF_ser {l : List UInt8} {k : UInt8} {ser : Nat} {b : List UInt8} (h : readF l = .ok k ser b) : ser < 18446744073709551616 := by
  unfold readF at h
  repeat' split at h
  all_goals cases h
  have h1 := unle_lt ((l.drop 4).take 8)
  have h2 : 256 ^ ((l.drop 4).take 8).length ≤ 256 ^ 8 := Nat.pow_le_pow_right (by omega) (by simp; omega)
  omega
theorem decode_err {l : List UInt8} {c : Int} (h : readF l = .err c) : decode l = (Sup.zero, c) := by unfold decode; rw [h]
theorem decode_bad {l : List UInt8} {k : UInt8} {ser : Nat} {b : List UInt8} (h : readF l = .ok k ser b) (hb : ¬ (k = 1 ∧ b.length = 52)) : decode l = (Sup.zero, 90) := by unfold decode; rw [h]; exact if_neg hb
theorem Decode_any (A : Option Addr) (n c : Nat) (l : List UInt8) (w : World) (h : Bs w A n c l) :
    Calls Tryz.prog 46 #[.slice A n c] w (RetS w (decode l)) := by
  cases hr : readF l with
  | err code => rw [decode_err hr]; exact Decode_err A n c l w h code (readF_err hr) hr
  | ok k ser b =>
    by_cases hb : k = 1 ∧ b.length = 52
    · obtain ⟨rfl, hl⟩ := hb
      exact Decode_run A n c l w h ser b (readF_ser hr) hr hl
    · rw [decode_bad hr hb]
      exact Decode_bad A n c l w h k ser b hr hb
set_option maxHeartbeats 4000000 in
theorem RDecode_err (A : Option Addr) (n c : Nat) (l : List UInt8) (w : World) (h : Bs w A n c l) (code : Int) (hc0 : code ≠ 0) (hr : readF l = .err code) :
    Calls Tryz.prog 82 #[.slice A n c] w (RetS w (Sup.zero, code)) := by
  have hz := Lib.hid (show Sup.zero.cells = #[.int .u64 0, .int .i64 0, .int .i64 0, .int .i64 0, .int .i64 0, .int .i64 0, .int .i64 0, .int .i64 0, .int .u32 0] from rfl)
  have hb : (code == 0) = false := by rw [beq_eq_false_iff_ne]; exact hc0
  have hread := Lib.hid (fun (W : World) (hW : Bs W A n c l) => RRead_any A n c l 0 0 W hW rfl (Nat.zero_le _))
  have H := Lib.hid h
  have HR := Lib.hid hr
  clear hc0 hr h
  go_enter Tryz.func82, Tryz.ntmps82
  go_wp2_with (first
    | (go_at_call 110; go_must (refine (hread.out _ (H.out.alloc _)).mono ?_; simp only [List.drop_zero, HR.out, RetF]; rintro e wx ⟨rfl, hbx⟩; have HB := Lib.hid hbx; have HX := Lib.hid (blk_below (blk_new _ _) hbx); clear hbx; have hsz := blk_lt HX.out))
    | (refine wpList_store_blk rfl 30 _ _ rfl (b := w.heap.size) rfl rfl _ rfl rfl (by decide) (blk_alloc HX.out _) rfl ?_; go_must (intro w2 hb2 hg2 hz2)))
  refine bodyPost_ret (results_blk 2 3 30 rfl rfl rfl _ rfl rfl (fun _ => by simp [go_sem, isAgg]) hb2) rfl ⟨?_, ?_⟩
  · simp only [hz.out]; rfl
  · exact grown_bel (bel_in HB.out) hg2 (Nat.le_refl _)
theorem RDecode_bad (A : Option Addr) (n c : Nat) (l : List UInt8) (w : World) (h : Bs w A n c l) (k : UInt8) (ser : Nat) (b : List UInt8) (hr : readF l = .ok k ser b) (hbad : ¬ (k = 1 ∧ b.length = 52)) :
    Calls Tryz.prog 82 #[.slice A n c] w (RetS w (Sup.zero, 90)) := by
  have hz := Lib.hid (show Sup.zero.cells = #[.int .u64 0, .int .i64 0, .int .i64 0, .int .i64 0, .int .i64 0, .int .i64 0, .int .i64 0, .int .i64 0, .int .u32 0] from rfl)
  have hread := Lib.hid (fun (W : World) (hW : Bs W A n c l) => RRead_any A n c l 0 0 W hW rfl (Nat.zero_le _))
  have H := Lib.hid h
  have HR := Lib.hid hr
  have hbad := Lib.hid hbad
  clear hr h
  have hcase : ((k.toNat : Int) == 1) = false ∨ (((k.toNat : Int) == 1) = true ∧ Hid (b.length ≠ 52)) := by
    by_cases hk : k = 1
    · subst hk
      exact .inr ⟨rfl, Lib.hid fun e => hbad.out ⟨rfl, e⟩⟩
    · refine .inl ?_
      rw [beq_eq_false_iff_ne]
      intro e
      apply hk
      apply UInt8.toNat_inj.1
      simp only [UInt8.toNat_one]
      omega
  rcases hcase with hk | ⟨hk, hlen⟩
  · go_enter Tryz.func82, Tryz.ntmps82
    go_wp2_with (first
      | (go_at_call 110; go_must (refine (hread.out _ (H.out.alloc _)).mono ?_; simp only [List.drop_zero, HR.out, RetF]; rintro e wx ⟨A3, nn, c3, rfl, hbb, hdd, hbx⟩; have HB := Lib.hid hbx; have HX := Lib.hid (blk_below (blk_new _ _) hbx); clear hbx hbb hdd; have hsz := blk_lt HX.out))
      | (refine wpList_store_blk rfl 30 _ _ rfl (b := w.heap.size) rfl rfl _ rfl rfl (by decide) (blk_alloc HX.out _) rfl ?_; go_must (intro w2 hb2 hg2 hz2)))
    refine bodyPost_ret (results_blk 2 3 30 rfl rfl rfl _ rfl rfl (fun _ => by simp [go_sem, isAgg]) hb2) rfl ⟨?_, ?_⟩
    · simp only [hz.out]; rfl
    · exact grown_bel (bel_in HB.out) hg2 (Nat.le_refl _)
  · go_enter Tryz.func82, Tryz.ntmps82
    go_wp2_with (first
      | (go_at_call 110; go_must (refine (hread.out _ (H.out.alloc _)).mono ?_; simp only [List.drop_zero, HR.out, RetF]; rintro e wx ⟨A3, nn, c3, rfl, hbb, hdd, hbx⟩; have hn : ((nn : Int) == 52) = false := (by rw [beq_eq_false_iff_ne]; intro e; exact hlen.out (by have := hbb.len; omega)); have HB := Lib.hid hbx; have HX := Lib.hid (blk_below (blk_new _ _) hbx); clear hbx hbb hdd; have hsz := blk_lt HX.out))
      | (refine wpList_store_blk rfl 30 _ _ rfl (b := w.heap.size) rfl rfl _ rfl rfl (by decide) (blk_alloc HX.out _) rfl ?_; go_must (intro w2 hb2 hg2 hz2)))
    all_goals
      refine bodyPost_ret (results_blk 2 3 30 rfl rfl rfl _ rfl rfl (fun _ => by simp [go_sem, isAgg]) hb2) rfl ⟨?_, ?_⟩
      · simp only [hz.out]; rfl
      · exact grown_bel (bel_in HB.out) hg2 (Nat.le_refl _)
end Go.Proofs.YtaldjmhikebecaaGreat
namespace Go.Proofs.YtaldjmhikebecaaGreat
open Go Go.RowKit
set_option maxRecDepth 100000
set_option linter.unusedVariables false
attribute [local go_sem] Oper.semAt_some
theorem getAll_num (b : List UInt8) : getAll b 0 8 5 = [numAt b 0, numAt b 1, numAt b 2, numAt b 3, numAt b 4] := by simp [getAll, numAt]
theorem numAt_lt (b : List UInt8) (k : Nat) : numAt b k < 18446744073709551616 := by
  have h := unle_lt ((b.drop (k * 8)).take 8)
  have h2 : 256 ^ ((b.drop (k * 8)).take 8).length ≤ 256 ^ 8 := Nat.pow_le_pow_right (by omega) (by simp; omega)
  unfold numAt
  omega
theorem decode_val {l b : List UInt8} {ser : Nat} (hr : readF l = .ok 1 ser b) (hl : b.length = 52) : decode l = if (supOf ser b).ok then (supOf ser b, 0) else (Sup.zero, 90) := by
  unfold decode
  rw [hr]
  simp [hl]
theorem decode_big {l b : List UInt8} {ser : Nat} (hr : readF l = .ok 1 ser b) (hl : b.length = 52) {k : Nat} (hk : k < 5) (h : ¬ numAt b k ≤ 4611686018427387904) : decode l = (Sup.zero, 90) := by
  rw [decode_val hr hl, if_neg]
  intro hok
  have h2 := (hok.1 ⟨k, hk⟩).2
  apply h
  match k, hk, h2 with
  | 0, _, h2 => simp only [Sup.num, supOf, List.getD_cons_zero] at h2; omega
  | 1, _, h2 => simp only [Sup.num, supOf, List.getD_cons_zero, List.getD_cons_succ] at h2; omega
  | 2, _, h2 => simp only [Sup.num, supOf, List.getD_cons_zero, List.getD_cons_succ] at h2; omega
  | 3, _, h2 => simp only [Sup.num, supOf, List.getD_cons_zero, List.getD_cons_succ] at h2; omega
  | 4, _, h2 => simp only [Sup.num, supOf, List.getD_cons_zero, List.getD_cons_succ] at h2; omega
def nums5s (b : List UInt8) : List Value := u64s [numAt b 0, numAt b 1, numAt b 2, numAt b 3, numAt b 4]
def lows3s (b : List UInt8) : List Value := u64s [lowAt b 0, lowAt b 1, lowAt b 2]
def RetRow (w : World) (k : Nat) (vs : List Value) (nx : Int) (e : Ending) (w' : World) : Prop :=
  ∃ A c, e = .returned (.tuple #[.slice A k c, .int .i64 nx, .int .i64 0]) ∧ w'.ownsRow w.heap.size 27 1 (.slice A k c) k vs ∧ Below w.heap.size w w'
theorem RGetAll_nums (A : Option Addr) (c : Nat) (b : List UInt8) (w : World) (h : Bs w A 52 c b) :
    Calls Tryz.prog 111 #[.slice A 52 c, .int .i64 0, .int .i64 8, .int .i64 5] w (RetRow w 5 (nums5s b) 40) := by
  have := RGetAll_ok A 52 c b 0 8 5 0 8 5 w h rfl rfl rfl (by omega) (by omega) (by omega) (by omega)
  rw [getAll_num] at this
  exact this
theorem RGetAll_lows (A : Option Addr) (c : Nat) (b : List UInt8) (w : World) (h : Bs w A 52 c b) :
    Calls Tryz.prog 111 #[.slice A 52 c, .int .i64 40, .int .i64 4, .int .i64 3] w (RetRow w 3 (lows3s b) 52) := by
  have := RGetAll_ok A 52 c b 40 4 3 40 4 3 w h rfl rfl rfl (by omega) (by omega) (by omega) (by omega)
  rw [getAll_low] at this
  exact this
theorem low_row {w : World} {A : Option Addr} {c : Nat} {b : List UInt8} (h : Rd w 1 A 3 c (lows3s b)) {k : Nat} (hk : k < 3) : ∃ ad, A = some ad ∧ w.cell? (ad.add k) = some (.int .u64 (lowAt b k : Int)) := by
  obtain ⟨ad, e, hc⟩ := h.at_ hk
  refine ⟨ad, e, hc.trans ?_⟩
  match k, hk with
  | 0, _ => rfl
  | 1, _ => rfl
  | 2, _ => rfl
theorem num_row {w : World} {A : Option Addr} {c : Nat} {b : List UInt8} (h : Rd w 1 A 5 c (nums5s b)) {k : Nat} (hk : k < 5) : ∃ ad, A = some ad ∧ w.cell? (ad.add k) = some (.int .u64 (numAt b k : Int)) := by
  obtain ⟨ad, e, hc⟩ := h.at_ hk
  refine ⟨ad, e, hc.trans ?_⟩
  match k, hk with
  | 0, _ => rfl
  | 1, _ => rfl
  | 2, _ => rfl
  | 3, _ => rfl
  | 4, _ => rfl
set_option maxHeartbeats 1000000 in
theorem RDecode_run (A : Option Addr) (n c : Nat) (l : List UInt8) (w : World) (h : Bs w A n c l) (ser : Nat) (b : List UInt8) (hr : readF l = .ok 1 ser b) (hlen : b.length = 52) :
    Calls Tryz.prog 82 #[.slice A n c] w (RetS w (decode l)) := by
  have hz := Lib.hid (show Sup.zero.cells = #[.int .u64 0, .int .i64 0, .int .i64 0, .int .i64 0, .int .i64 0, .int .i64 0, .int .i64 0, .int .i64 0, .int .u32 0] from rfl)
  have hread := Lib.hid (fun (W : World) (hW : Bs W A n c l) => RRead_any A n c l 0 0 W hW rfl (Nat.zero_le _))
  have H := Lib.hid h
  have HR := Lib.hid hr
  have HL := Lib.hid hlen
  clear hr h hlen
  have tok1 : True := trivial
  go_enter Tryz.func82, Tryz.ntmps82
  go_wp2_with (first
    | (go_at_call 110; go_must (refine (hread.out _ (H.out.alloc _)).mono ?_; simp only [List.drop_zero, HR.out, RetF]; rintro e wx ⟨A3, nn, c3, rfl, hbb, hdd, hbx⟩; obtain rfl : nn = 52 := hbb.len.symm.trans HL.out; have HBB := Lib.hid hbb; have HB := Lib.hid hbx; have HX := Lib.hid (blk_below (blk_new _ _) hbx); clear hbx hbb hdd; have hsz := blk_lt HX.out))
    | (go_at_call 111; have _t := tok1; clear tok1; go_must (clear _t; refine (RGetAll_nums A3 c3 b _ (HBB.out.alloc _)).mono ?_; rintro e wy ⟨A5, c5, rfl, ho5, hb5⟩; have HO5 := Lib.hid ho5; have HB5 := Lib.hid hb5; have HF := Lib.hid (blk_below (blk_new wx (.cells #[.int .u8 1, .int .u64 (ser : Int), .slice A3 52 c3] 130)) hb5); clear ho5 hb5; have r2 : wy.cell? ⟨wx.heap.size, 2, none⟩ = some (.slice A3 52 c3) := blk_cell HF.out 2; have r1 : wy.cell? ⟨wx.heap.size, 1, none⟩ = some (.int .u64 (ser : Int)) := blk_cell HF.out 1))
    | (go_at_call 111; go_must (refine (RGetAll_lows A3 c3 b _ (Bs.below (HBB.out.alloc _) HB5.out)).mono ?_; rintro e wz ⟨A4, c4, rfl, ho4, hb4⟩; have HO4 := Lib.hid ho4; have HB4 := Lib.hid hb4; have q1 := cell_keep hb4 r1; clear r1 r2 ho4 hb4)))
  have hrd := Lib.hid ((Rd.of_own HO5.out).below HB4.out)
  obtain ⟨ad, hA5, y0⟩ := num_row hrd.out (k := 0) (by omega)
  subst hA5
  have HZ1 := Lib.hid (blk_below (blk_below (blk_alloc HX.out _) HB5.out) HB4.out)
  have HZB := Lib.hid (bthen (bthen (bel_in HB.out) HB5.out) HB4.out)
  go_loop [13] (fun i => ∃ k : Nat, k ≤ 5 ∧ i = .int .i64 k ∧ Hid (∀ j, j < k → numAt b j ≤ 4611686018427387904)) (fun i => 5 - (intOf i).toNat)
  case atStart => exact ⟨0, by omega, rfl, Lib.hid fun j h => absurd h (by omega)⟩
  case round =>
    obtain ⟨k, hk, rfl, hall⟩ := hrel
    by_cases hlt : k < 5
    · obtain ⟨_, e, hcell⟩ := num_row hrd.out hlt
      cases e
      by_cases hok : numAt b k ≤ 4611686018427387904
      · have hnx : Hid (∀ j, j < k + 1 → numAt b j ≤ 4611686018427387904) := Lib.hid (fun j h => by
          rcases Nat.lt_or_ge j k with h' | h'
          · exact hall.out j h'
          · obtain rfl : j = k := by omega
            exact hok)
        generalize numAt b k = v at hcell hok
        have ho2 : ¬ (4611686018427387904 : Int) < v := by omega
        clear y0
        go_wp2
        exact ⟨⟨k + 1, by omega, by go_num, hnx⟩, by simp [intOf]; omega⟩
      · have hdec := Lib.hid (decode_big HR.out HL.out hlt hok)
        generalize numAt b k = v at hcell hok
        have ho2 : (4611686018427387904 : Int) < v := by omega
        clear y0
        go_wp2_with (refine wpList_store_blk rfl 30 _ _ rfl (b := w.heap.size) rfl rfl _ rfl rfl (by decide) HZ1.out rfl ?_; go_must (intro w2 hb2 hg2 hz2))
        rw [hdec.out]
        refine bodyPost_ret (results_blk 2 3 30 rfl rfl rfl _ rfl rfl (fun _ => by simp [go_sem, isAgg]) hb2) rfl ⟨?_, ?_⟩
        · simp only [hz.out]; rfl
        · exact grown_bel HZB.out hg2 (Nat.le_refl _)
    · obtain rfl : k = 5 := by omega
      have hlrd := Rd.of_own HO4.out
      obtain ⟨ad4, hA4, z0⟩ := low_row hlrd (k := 0) (by omega)
      subst hA4
      obtain ⟨_, e, z1⟩ := low_row hlrd (k := 1) (by omega)
      cases e
      obtain ⟨_, e, z2⟩ := low_row hlrd (k := 2) (by omega)
      cases e
      obtain ⟨_, e, y1⟩ := num_row hrd.out (k := 1) (by omega)
      cases e
      obtain ⟨_, e, y2⟩ := num_row hrd.out (k := 2) (by omega)
      cases e
      obtain ⟨_, e, y3⟩ := num_row hrd.out (k := 3) (by omega)
      cases e
      obtain ⟨_, e, y4⟩ := num_row hrd.out (k := 4) (by omega)
      cases e
      simp only [Addr.add, if_pos, Nat.succ_ne_zero] at y0 y1 y2 y3 y4 z0 z1 z2
      replace y0 : wz.cell? ad = some (.int .u64 (numAt b 0 : Int)) := y0
      replace y1 : wz.cell? ⟨ad.block, ad.off + 1, none⟩ = some (.int .u64 (numAt b 1 : Int)) := y1
      replace y2 : wz.cell? ⟨ad.block, ad.off + 2, none⟩ = some (.int .u64 (numAt b 2 : Int)) := y2
      replace y3 : wz.cell? ⟨ad.block, ad.off + 3, none⟩ = some (.int .u64 (numAt b 3 : Int)) := y3
      replace y4 : wz.cell? ⟨ad.block, ad.off + 4, none⟩ = some (.int .u64 (numAt b 4 : Int)) := y4
      replace z0 : wz.cell? ad4 = some (.int .u64 (lowAt b 0 : Int)) := z0
      replace z1 : wz.cell? ⟨ad4.block, ad4.off + 1, none⟩ = some (.int .u64 (lowAt b 1 : Int)) := z1
      replace z2 : wz.cell? ⟨ad4.block, ad4.off + 2, none⟩ = some (.int .u64 (lowAt b 2 : Int)) := z2
      have b0 := hall.out 0 (by omega)
      have b1 := hall.out 1 (by omega)
      have b2 := hall.out 2 (by omega)
      have b3 := hall.out 3 (by omega)
      have b4 := hall.out 4 (by omega)
      have c0 := lowAt_lt b 0
      have c1 := lowAt_lt b 1
      have c2 := lowAt_lt b 2
      have hdec := Lib.hid (decode_val HR.out HL.out)
      unfold supOf at hdec
      clear hall
      generalize numAt b 0 = n0 at y0 b0 hdec
      generalize numAt b 1 = n1 at y1 b1 hdec
      generalize numAt b 2 = n2 at y2 b2 hdec
      generalize numAt b 3 = n3 at y3 b3 hdec
      generalize numAt b 4 = n4 at y4 b4 hdec
      generalize lowAt b 0 = l0 at z0 c0 hdec
      generalize lowAt b 1 = l1 at z1 c1 hdec
      generalize lowAt b 2 = l2 at z2 c2 hdec
      have g0 : IntKind.i64.wrap (n0 : Int) = n0 := by rw [IntKind.wrap_i64]; omega
      have g1 : IntKind.i64.wrap (n1 : Int) = n1 := by rw [IntKind.wrap_i64]; omega
      have g2 : IntKind.i64.wrap (n2 : Int) = n2 := by rw [IntKind.wrap_i64]; omega
      have g3 : IntKind.i64.wrap (n3 : Int) = n3 := by rw [IntKind.wrap_i64]; omega
      have g4 : IntKind.i64.wrap (n4 : Int) = n4 := by rw [IntKind.wrap_i64]; omega
      have g5 : IntKind.i64.wrap (l0 : Int) = l0 := by rw [IntKind.wrap_i64]; omega
      have g6 : IntKind.i64.wrap (l1 : Int) = l1 := by rw [IntKind.wrap_i64]; omega
      have g7 : IntKind.u32.wrap (l2 : Int) = l2 := by rw [IntKind.wrap_u32]; omega
      clear b0 b1 b2 b3 b4 c0 c1 c2
      go_wp2
      go_region_held3 (fun w' => w'.cell? ⟨wx.heap.size, 1, none⟩ = some (.int .u64 (ser : Int)) ∧ w'.cell? ad = some (.int .u64 (n0 : Int)) ∧ w'.cell? ⟨ad.block, ad.off + 1, none⟩ = some (.int .u64 (n1 : Int)) ∧ w'.cell? ⟨ad.block, ad.off + 2, none⟩ = some (.int .u64 (n2 : Int)) ∧ w'.cell? ⟨ad.block, ad.off + 3, none⟩ = some (.int .u64 (n3 : Int)) ∧ w'.cell? ⟨ad.block, ad.off + 4, none⟩ = some (.int .u64 (n4 : Int)) ∧ w'.cell? ad4 = some (.int .u64 (l0 : Int)) ∧ w'.cell? ⟨ad4.block, ad4.off + 1, none⟩ = some (.int .u64 (l1 : Int)) ∧ w'.cell? ⟨ad4.block, ad4.off + 2, none⟩ = some (.int .u64 (l2 : Int))) (go_keep) (fail)
      have hW3 : ((wz.alloc (.cells #[.int .u64 (ser : Int), .int .i64 (n0 : Int), .int .i64 (n1 : Int), .int .i64 (n2 : Int), .int .i64 (n3 : Int), .int .i64 (n4 : Int), .int .i64 (l0 : Int), .int .i64 (l1 : Int), .int .u32 (l2 : Int)] 30)).drew).heap[wz.heap.size]? = some (.cells #[.int .u64 (ser : Int), .int .i64 (n0 : Int), .int .i64 (n1 : Int), .int .i64 (n2 : Int), .int .i64 (n3 : Int), .int .i64 (n4 : Int), .int .i64 (l0 : Int), .int .i64 (l1 : Int), .int .u32 (l2 : Int)] 30 (0, 0)) := blk_new wz _
      have hW1 : ((wz.alloc (.cells #[.int .u64 (ser : Int), .int .i64 (n0 : Int), .int .i64 (n1 : Int), .int .i64 (n2 : Int), .int .i64 (n3 : Int), .int .i64 (n4 : Int), .int .i64 (l0 : Int), .int .i64 (l1 : Int), .int .u32 (l2 : Int)] 30)).drew).heap[w.heap.size]? = some _ := blk_alloc HZ1.out _
      have hWB : Below w.heap.size w ((wz.alloc (.cells #[.int .u64 (ser : Int), .int .i64 (n0 : Int), .int .i64 (n1 : Int), .int .i64 (n2 : Int), .int .i64 (n3 : Int), .int .i64 (n4 : Int), .int .i64 (l0 : Int), .int .i64 (l1 : Int), .int .u32 (l2 : Int)] 30)).drew) := (HZB.out.alloc HZB.out.size _).drew
      generalize (wz.alloc (.cells #[.int .u64 (ser : Int), .int .i64 (n0 : Int), .int .i64 (n1 : Int), .int .i64 (n2 : Int), .int .i64 (n3 : Int), .int .i64 (n4 : Int), .int .i64 (l0 : Int), .int .i64 (l1 : Int), .int .u32 (l2 : Int)] 30)).drew = W9 at hW3 hW1 hWB ⊢
      have HW3 := Lib.hid hW3
      have HW1 := Lib.hid hW1
      have HWB := Lib.hid hWB
      clear hW3 hW1 hWB y0 y1 y2 y3 y4 z0 z1 z2 q1 g0 g1 g2 g3 g4 g5 g6 g7
      by_cases hok : (⟨ser, n0, n1, n2, n3, n4, l0, l1, l2⟩ : Sup).ok
      · have hc : Hid (Calls Tryz.prog 10 #[.agg #[.int .u64 (ser : Int), .int .i64 (n0 : Int), .int .i64 (n1 : Int), .int .i64 (n2 : Int), .int .i64 (n3 : Int), .int .i64 (n4 : Int), .int .i64 (l0 : Int), .int .i64 (l1 : Int), .int .u32 (l2 : Int)]] W9 (RetI W9 0)) := Lib.hid (by have h := RCheck_any ⟨ser, n0, n1, n2, n3, n4, l0, l1, l2⟩ W9; rw [chk, if_pos hok] at h; exact h)
        have hval := Lib.hid (hdec.out.trans (if_pos hok))
        clear hok hdec
        go_wp2_with (first
          | (refine wpList_load_blk rfl 30 _ rfl (b := wz.heap.size) rfl _ rfl rfl (fun _ => by simp [go_sem, isAgg]) HW3.out ?_)
          | (refine wpList_load_blk rfl 30 _ rfl (b := wz.heap.size) rfl _ rfl rfl (fun _ => by simp [go_sem, isAgg]) HC3.out ?_)
          | (go_at_call 10; go_must (refine hc.out.mono ?_; rintro e9 wc ⟨rfl, hbc⟩; have HCB := Lib.hid hbc; have HC3 := Lib.hid (blk_below HW3.out hbc); have HC1 := Lib.hid (blk_below HW1.out hbc); clear hbc))
          | (refine wpList_store_blk rfl 30 _ _ rfl (b := w.heap.size) rfl rfl _ rfl rfl (by simp [Value.oneCell']) HC1.out rfl ?_; intro w2 hb2 hg2 hz2; have HB2 := Lib.hid hb2; have HG2 := Lib.hid hg2; clear hb2 hg2 hz2))
        rw [hval.out]
        refine bodyPost_ret (results_blk 2 3 30 rfl rfl rfl _ rfl rfl (fun _ => by simp [go_sem, isAgg]) HB2.out) rfl ⟨?_, ?_⟩
        · rfl
        · exact grown_bel (bthen HWB.out HCB.out) HG2.out (Nat.le_refl _)
      · have hc : Hid (Calls Tryz.prog 10 #[.agg #[.int .u64 (ser : Int), .int .i64 (n0 : Int), .int .i64 (n1 : Int), .int .i64 (n2 : Int), .int .i64 (n3 : Int), .int .i64 (n4 : Int), .int .i64 (l0 : Int), .int .i64 (l1 : Int), .int .u32 (l2 : Int)]] W9 (RetI W9 90)) := Lib.hid (by have h := RCheck_any ⟨ser, n0, n1, n2, n3, n4, l0, l1, l2⟩ W9; rw [chk, if_neg hok] at h; exact h)
        have hval := Lib.hid (hdec.out.trans (if_neg hok))
        clear hok hdec
        go_wp2_with (first
          | (refine wpList_load_blk rfl 30 _ rfl (b := wz.heap.size) rfl _ rfl rfl (fun _ => by simp [go_sem, isAgg]) HW3.out ?_)
          | (refine wpList_load_blk rfl 30 _ rfl (b := wz.heap.size) rfl _ rfl rfl (fun _ => by simp [go_sem, isAgg]) HC3.out ?_)
          | (go_at_call 10; go_must (refine hc.out.mono ?_; rintro e9 wc ⟨rfl, hbc⟩; have HCB := Lib.hid hbc; have HC3 := Lib.hid (blk_below HW3.out hbc); have HC1 := Lib.hid (blk_below HW1.out hbc); clear hbc))
          | (refine wpList_store_blk rfl 30 _ _ rfl (b := w.heap.size) rfl rfl _ rfl rfl (by decide) HC1.out rfl ?_; intro w2 hb2 hg2 hz2; have HB2 := Lib.hid hb2; have HG2 := Lib.hid hg2; clear hb2 hg2 hz2))
        rw [hval.out]
        refine bodyPost_ret (results_blk 2 3 30 rfl rfl rfl _ rfl rfl (fun _ => by simp [go_sem, isAgg]) HB2.out) rfl ⟨?_, ?_⟩
        · simp only [hz.out]; rfl
        · exact grown_bel (bthen HWB.out HCB.out) HG2.out (Nat.le_refl _)
end Go.Proofs.YtaldjmhikebecaaGreat
namespace Go.Proofs.YtaldjmhikebecaaGreat
open Go Go.RowKit
set_option maxRecDepth 100000
theorem RDecode_any (A : Option Addr) (n c : Nat) (l : List UInt8) (w : World) (h : Bs w A n c l) :
    Calls Tryz.prog 82 #[.slice A n c] w (RetS w (decode l)) := by
  cases hr : readF l with
  | err code => rw [decode_err hr]; exact RDecode_err A n c l w h code (readF_err hr) hr
  | ok k ser b =>
    by_cases hb : k = 1 ∧ b.length = 52
    · obtain ⟨rfl, hl⟩ := hb
      exact RDecode_run A n c l w h ser b hr hl
    · rw [decode_bad hr hb]
      exact RDecode_bad A n c l w h k ser b hr hb
end Go.Proofs.YtaldjmhikebecaaGreat
