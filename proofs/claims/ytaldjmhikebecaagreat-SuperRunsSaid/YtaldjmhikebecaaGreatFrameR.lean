/- Layer 3's reference: Read. -/
import Derived.Test.YtaldjmhikebecaaGreatFrame
import Derived.Deep.RegionLaw
import Derived.IntWalk
namespace Go.Proofs.YtaldjmhikebecaaGreat
open Go Go.RowKit
set_option maxRecDepth 100000
set_option maxHeartbeats 4000000 in
theorem RRead_any (A : Option Addr) (m c : Nat) (l : List UInt8) (p : Int) (at_ : Nat) (w : World) (h : Bs w A m c l) (hp : p = at_) (ha : at_ ≤ m) :
    Calls Tryz.prog 110 #[.slice A m c, .int .i64 p] w (RetF w p (readF (l.drop at_))) := by
  subst hp
  have hi := h.i64
  have hmc := h.2.1
  have hcm : c ≤ 9223372036854775807 := by have := h.2.2.1; unfold maxLen at this; omega
  have b1 : decide ((at_ : Int) < 0) = false := by simp
  have b2 : decide (m < at_) = false := by simp; omega
  obtain ⟨A', hcut, hcut2, hcut3⟩ := cutB A m c at_ ha
  have HX := Lib.hid (hcut2 w l h)
  have HX3 := Lib.hid hcut3
  clear hcut2 hcut3 h
  generalize l.drop at_ = x at HX ⊢
  have hmx : m - at_ ≤ 9223372036854775807 := by omega
  have hcx : c - at_ ≤ 9223372036854775807 := by omega
  have hamx : at_ + (m - at_) ≤ 9223372036854775807 := by omega
  generalize m - at_ = mx at hcut HX hmx hamx
  generalize c - at_ = cx at hcut HX hcx
  clear hcm hmc
  have hxl := Lib.hid HX.out.len
  have hmcx := HX.out.2.1
  have tok1 : True := trivial
  by_cases h16 : mx < 16
  · have hf : Hid (readF x = .err 10) := Lib.hid (by unfold readF; rw [if_pos (by rw [hxl.out]; exact h16)])
    go_enter Tryz.func110, Tryz.ntmps110
    go_wp2_with fail
    go_returns
    rw [hf.out]
    exact ⟨rfl, (Below.refl _ _).alloc (Nat.le_refl _) _⟩
  obtain ⟨ad, rfl⟩ : ∃ ad, A' = some ad := by obtain ⟨ad, e, _⟩ := HX.out.2.2.2 (by omega); exact ⟨ad, e⟩
  have HXA := Lib.hid (HX.out.alloc (.cells #[.int .u8 0, .int .u64 0, .slice none 0 0] 130))
  have hc0 : (w.alloc (.cells #[.int .u8 0, .int .u64 0, .slice none 0 0] 130)).cell? ad = some (.int .u8 ((x.getD 0 0).toNat : Int)) := by simpa [Addr.add] using getD_cell HXA.out 0 (by omega)
  have hc1 := getD_cellp HXA.out 1 (by omega) (by omega)
  have hc3 := getD_cellp HXA.out 3 (by omega) (by omega)
  have hnn : unle ((x.drop 12).take 4) < 4294967296 := by
    have := unle_lt ((x.drop 12).take 4)
    exact Nat.lt_of_lt_of_le this (Nat.le_trans (Nat.pow_le_pow_right (by omega) (List.length_take_le _ _)) (by decide))
  have hrd := Lib.hid (show readF x = if ¬ (x.getD 0 0 = 80 ∧ x.getD 1 0 = 76 ∧ x.getD 3 0 = 0 ∧ unle ((x.drop 12).take 4) ≤ 16777216) then .err 30
    else if mx < unle ((x.drop 12).take 4) + 20 then .err 10
    else if ¬ sealB (x.take (unle ((x.drop 12).take 4) + 16)) = x.take (unle ((x.drop 12).take 4) + 20) then .err 31
    else .ok (x.getD 2 0) (unle ((x.drop 4).take 8)) ((x.drop 16).take (unle ((x.drop 12).take 4))) from by
      unfold readF
      rw [if_neg (by rw [hxl.out]; exact h16), hxl.out])
  have hc2 := Lib.hid (getD_cell HX.out 2 (by omega))
  generalize x.getD 0 0 = x0 at hc0 hrd
  generalize x.getD 1 0 = x1 at hc1 hrd
  generalize x.getD 3 0 = x3 at hc3 hrd
  generalize hgx2 : x.getD 2 0 = x2 at hc2 hrd
  have HX2 := Lib.hid hgx2
  clear hgx2
  generalize hgn : unle ((x.drop 12).take 4) = nn at hnn hrd
  by_cases hh : x0 = 80 ∧ x1 = 76 ∧ x3 = 0 ∧ nn ≤ 16777216
  · obtain ⟨e0, e1, e3, hle⟩ := hh
    have z0 : (x0.toNat : Int) = 80 := by subst e0; rfl
    have z1 : (x1.toNat : Int) = 76 := by subst e1; rfl
    have z3 : (x3.toNat : Int) = 0 := by subst e3; rfl
    have hrd2 := Lib.hid (hrd.out.trans (if_neg (fun h => h ⟨e0, e1, e3, hle⟩)))
    rw [z0] at hc0
    rw [z1] at hc1
    rw [z3] at hc3
    clear e0 e1 e3 z0 z1 z3 hrd
    by_cases hsz : mx < nn + 20
    · have hf : Hid (readF x = .err 10) := Lib.hid (by rw [hrd2.out, if_pos hsz])
      clear hrd2
      (go_enter Tryz.func110, Tryz.ntmps110; go_wp2_with (go_at_call 131; go_must (refine (RGet_ok _ _ _ x _ _ 12 4 _ HXA.out rfl rfl (by omega) (by omega) (by omega)).mono ?_; rintro e w' ⟨rfl, rfl⟩)); go_returns; rw [hf.out]; exact ⟨rfl, (Below.refl _ _).alloc (Nat.le_refl _) _⟩)
    · have hrd3 := Lib.hid (hrd2.out.trans (if_neg hsz))
      clear hrd2
      have HT0 := HXA.out.take (k := nn + 20) (by omega) cx (by have := HXA.out.2.1; omega) HXA.out.2.2.1
      have HT : Hid (Bs (w.alloc (.cells #[.int .u8 0, .int .u64 0, .slice none 0 0] 130)) (some ad) (20 + nn) cx (x.take (nn + 20))) := Lib.hid (by rw [Nat.add_comm 20 nn]; exact HT0)
      clear HT0
      have htk : (x.take (nn + 20)).take (nn + 16) = x.take (nn + 16) := by rw [List.take_take, Nat.min_eq_left (by omega)]
      by_cases hseal : sealB (x.take (nn + 16)) = x.take (nn + 20)
      · have hf : Hid (readF x = .ok x2 (unle ((x.drop 4).take 8)) ((x.drop 16).take nn)) := Lib.hid (by rw [hrd3.out, if_neg (fun h => h hseal)])
        clear hrd3
        have hseal := Lib.hid hseal
        have htk := Lib.hid htk
        go_enter Tryz.func110, Tryz.ntmps110
        go_wp2_with (first | (go_at_call 131; have _t := tok1; clear tok1; go_must (refine (RGet_ok _ _ _ x _ _ 12 4 _ HXA.out rfl rfl (by omega) (by omega) (by omega)).mono ?_; clear _t; rintro e w' ⟨rfl, rfl⟩)) | (go_at_call 132; go_must (refine (ROpen_ok _ _ _ _ (nn + 16) _ HT.out (by omega) (by rw [htk.out]; exact hseal.out) (by omega)).mono ?_; rintro e wx ⟨Ax, cx2, rfl, hox, hbx⟩; have HB := Lib.hid hbx; have r0 := cell_keep hbx (a := ⟨w.heap.size, 0, none⟩) (v := .int .u8 0) (by simp [go_sem]); have r1 := cell_keep hbx (a := ⟨w.heap.size, 1, none⟩) (v := .int .u64 0) (by simp [go_sem]); have r2 := cell_keep hbx (a := ⟨w.heap.size, 2, none⟩) (v := .slice none 0 0) (by simp [go_sem]); have f0 : ∀ o, wx.frozen? ⟨w.heap.size, o, none⟩ = false := (fun o => (hbx.frozen (p := ⟨w.heap.size, o, none⟩) (by simp)).trans (by simp [go_sem])); have HXX := Lib.hid (HXA.out.below hbx); clear hbx hox)) | (go_at_call 131; go_must (refine (RGet_ok _ _ _ _ _ _ 4 8 _ HXX.out rfl rfl (by omega) (by omega) (by omega)).mono ?_; rintro e w' ⟨rfl, rfl⟩)))
        have hadb : ad.block < wx.heap.size := by
          obtain ⟨ad', e, hcc⟩ := HXX.out.at_ (k := 0) (by omega)
          cases e
          have := World.block_lt_of_cell? wx _ hcc
          rwa [block_add] at this
        have hne : ¬ (cx = 16) := by omega
        have rc2 : wx.cell? ⟨ad.block, ad.off + 2, none⟩ = some (.int .u8 (x2.toNat : Int)) := by rw [← HX2.out]; exact getD_cellp HXX.out 2 (by omega) (by omega)
        have hzz : w.heap.size < wx.heap.size := by have := HB.out.size; simp at this; omega
        generalize unle ((x.drop 4).take 8) = ser at hf ⊢
        clear hc0 hc1 hc3 hgn
        have i1 : (2 : Int) < (mx : Int) := by omega
        obtain ⟨A4, hk1, hk2, hk3⟩ := cutB2 (some ad) mx cx 16 (16 + nn) (by omega) (by omega) hmcx
        have hk1' : ∀ W : World, (Instr.slice 51 (.slice (some ad) mx cx) (some (.int .i64 16)) (some (.int .i64 (16 + (nn : Int)))) none).run Tryz.prog W = .ok (.slice A4 nn (cx - 16)) W := by simpa using hk1
        clear hk1
        have HK2 := Lib.hid (show ∀ (w : World) (l : List UInt8), Bs w (some ad) mx cx l → Bs w A4 nn (cx - 16) ((l.drop 16).take nn) from by simpa using hk2)
        clear hk2 hk3
        have g1 : IntKind.i64.wrap (nn : Int) = nn := IntWalk.i64_in _ (by omega)
        have g2 : IntKind.i64.wrap (16 + (nn : Int)) = 16 + nn := IntWalk.i64_in _ (by omega)
        have g3 : IntKind.i64.wrap ((at_ : Int) + 20) = (at_ : Int) + 20 := IntWalk.i64_in _ (by omega)
        have g4 : IntKind.i64.wrap ((at_ : Int) + 20 + nn) = (at_ : Int) + 20 + nn := IntWalk.i64_in _ (by omega)
        have HQ1 := Lib.hid (own_lit0 wx 5)
        go_region_law ((refine step_append_rd rfl _ _ _ 5 rfl (.int .u8 0) 1 1 Tryz.underlying51 info_u8 rfl (by decide) (base := wx.heap.size) (n := 0) (v := .slice (some ⟨wx.heap.size, 0, none⟩) 0 0) (xs := []) (by exact HQ1.out) rfl (HK2.out _ _ (by exact HXX.out.alloc _)) rfl (bytes_oneCell _) (by omega) (by unfold maxLen; omega) (by simp) (fun A5 c5 w5 ho5 hg5 => ?_); have HO5 := Lib.hid ho5; have HG5 := Lib.hid hg5; have q0 := (hg5.g.cell (a := ⟨w.heap.size, 0, none⟩) (v := .int .u8 0) (by simp [go_sem, hzz, r0]) (by simp [Value.ownBlock]; omega)); have q1 := (hg5.g.cell (a := ⟨w.heap.size, 1, none⟩) (v := .int .u64 0) (by simp [go_sem, hzz, r1]) (by simp [Value.ownBlock]; omega)); have q2 := (hg5.g.cell (a := ⟨w.heap.size, 2, none⟩) (v := .slice none 0 0) (by simp [go_sem, hzz, r2]) (by simp [Value.ownBlock]; omega)); have q3 := (hg5.g.cell (a := ⟨ad.block, ad.off + 2, none⟩) (v := .int .u8 (x2.toNat : Int)) (by simp [go_sem, hadb, rc2]) (by simp [Value.ownBlock]; omega)); have f5 : ∀ o, w5.frozen? ⟨w.heap.size, o, none⟩ = false := (fun o => (World.frozen?_of_block (a := ⟨w.heap.size, o, none⟩) (hg5.g.block w.heap.size (by simp; omega) (by simp [Value.ownBlock]; omega))).trans (by simp [go_sem, hzz, f0])); clear ho5 hg5))
        all_goals
          clear g1 g2 g3 g4
          go_wp2
          have s0 := World.cell?_setCell_same' w5 ⟨w.heap.size, 0, none⟩ (.int .u8 (x2.toNat : Int)) (by rw [q0]; rfl)
          have e0 : (at_ : Int) + 20 + nn = (at_ : Int) + (nn + 20) := by omega
          refine bodyPost_ret (v := .tuple #[.agg #[.int .u8 (x2.toNat : Int), .int .u64 (ser : Int), .slice A5 nn c5], .int .i64 ((at_ : Int) + (nn + 20)), .int .i64 0]) (by rw [← e0]; simp [results, Tryz.results110, go_sem, s0, q1, q2]) rfl ?_
          rw [hf.out]
          have hbw := HG5.out.below ((below_alloc_then HB.out).alloc (Nat.le_of_lt hzz) (.cells #[] 5)).drew HQ1.out (Nat.le_of_lt hzz)
          have hown5 := HO5.out
          simp only [Nat.zero_add, List.nil_append] at hown5
          have hfr : ∀ ad', A5 = some ad' → w.heap.size < ad'.block := by
            intro ad' e
            subst e
            have := (own_base hown5 ad'.block rfl).1
            omega
          refine ⟨A5, nn, c5, rfl, ((((Bs.of_own hown5).set (p := ⟨w.heap.size, 0, none⟩) ?_ _).set (p := ⟨w.heap.size, 1, none⟩) ?_ _).set (p := ⟨w.heap.size, 2, none⟩) ?_ _), fun ad' e => Nat.le_of_lt (hfr ad' e), ?_⟩
          · exact fun ad' e => by have := hfr ad' e; simp; omega
          · exact fun ad' e => by have := hfr ad' e; simp; omega
          · exact fun ad' e => by have := hfr ad' e; simp; omega
          · go_grown
      · have hf : Hid (readF x = .err 31) := Lib.hid (by rw [hrd3.out, if_pos hseal])
        clear hrd3
        have hseal := Lib.hid hseal
        have htk := Lib.hid htk
        go_enter Tryz.func110, Tryz.ntmps110
        go_wp2_with (first | (go_at_call 131; go_must (refine (RGet_ok _ _ _ x _ _ 12 4 _ HXA.out rfl rfl (by omega) (by omega) (by omega)).mono ?_; rintro e w' ⟨rfl, rfl⟩)) | (go_at_call 132; go_must (refine (ROpen_bad _ _ _ _ (nn + 16) _ HT.out (by omega) (by rw [htk.out]; exact hseal.out) (by omega)).mono ?_; rintro e wx ⟨rfl, hbx⟩; have HB := Lib.hid hbx; have r0 := cell_keep hbx (a := ⟨w.heap.size, 0, none⟩) (v := .int .u8 0) (by simp [go_sem]); have r1 := cell_keep hbx (a := ⟨w.heap.size, 1, none⟩) (v := .int .u64 0) (by simp [go_sem]); have r2 := cell_keep hbx (a := ⟨w.heap.size, 2, none⟩) (v := .slice none 0 0) (by simp [go_sem]); have f0 : ∀ o, wx.frozen? ⟨w.heap.size, o, none⟩ = false := (fun o => (hbx.frozen (p := ⟨w.heap.size, o, none⟩) (by simp)).trans (by simp [go_sem])); clear hbx)))
        have s0 := World.cell?_setCell_same' wx ⟨w.heap.size, 0, none⟩ (.int .u8 0) (by rw [r0]; rfl)
        refine bodyPost_ret (v := .tuple #[.agg #[.int .u8 0, .int .u64 0, .slice none 0 0], .int .i64 0, .int .i64 31]) (by simp [results, Tryz.results110, go_sem, s0, r1, r2]) rfl ?_
        rw [hf.out]
        have hbw := below_alloc_then HB.out
        refine ⟨rfl, ?_⟩
        go_grown
  · have hf : Hid (readF x = .err 30) := Lib.hid (by rw [hrd.out, if_pos hh])
    clear hrd
    by_cases e0 : x0 = 80
    · have b0 : ((x0.toNat : Int) == 80) = true := u8_beq_true e0
      have z0 : (x0.toNat : Int) = 80 := by simpa using b0
      by_cases e1 : x1 = 76
      · have b4 : ((x1.toNat : Int) == 76) = true := u8_beq_true e1
        have z1 : (x1.toNat : Int) = 76 := by simpa using b4
        by_cases e3 : x3 = 0
        · have b3 : ((x3.toNat : Int) == 0) = true := u8_beq_true e3
          have z3 : (x3.toNat : Int) = 0 := by simpa using b3
          have hbig : 16777216 < nn := by
            rcases Nat.lt_or_ge 16777216 nn with h | h
            · exact h
            · exact absurd ⟨e0, e1, e3, h⟩ hh
          rw [z0] at hc0
          rw [z1] at hc1
          rw [z3] at hc3
          clear hh e0 e1 e3 z0 z1 z3 b0 b3 b4
          (go_enter Tryz.func110, Tryz.ntmps110; go_wp2_with (go_at_call 131; go_must (refine (RGet_ok _ _ _ x _ _ 12 4 _ HXA.out rfl rfl (by omega) (by omega) (by omega)).mono ?_; rintro e w' ⟨rfl, rfl⟩)); go_returns; rw [hf.out]; exact ⟨rfl, (Below.refl _ _).alloc (Nat.le_refl _) _⟩)
        · have b3 : ((x3.toNat : Int) == 0) = false := u8_beq_false e3
          have z3 : ¬ (x3.toNat : Int) = 0 := by simpa using b3
          rw [z0] at hc0
          rw [z1] at hc1
          clear hh e0 e1 e3 z0 z1 b0 b4
          (go_enter Tryz.func110, Tryz.ntmps110; go_wp2_with (go_at_call 131; go_must (refine (RGet_ok _ _ _ x _ _ 12 4 _ HXA.out rfl rfl (by omega) (by omega) (by omega)).mono ?_; rintro e w' ⟨rfl, rfl⟩)); go_returns; rw [hf.out]; exact ⟨rfl, (Below.refl _ _).alloc (Nat.le_refl _) _⟩)
      · have b4 : ((x1.toNat : Int) == 76) = false := u8_beq_false e1
        have z1 : ¬ (x1.toNat : Int) = 76 := by simpa using b4
        rw [z0] at hc0
        clear hh e0 e1 z0 b0
        (go_enter Tryz.func110, Tryz.ntmps110; go_wp2_with (go_at_call 131; go_must (refine (RGet_ok _ _ _ x _ _ 12 4 _ HXA.out rfl rfl (by omega) (by omega) (by omega)).mono ?_; rintro e w' ⟨rfl, rfl⟩)); go_returns; rw [hf.out]; exact ⟨rfl, (Below.refl _ _).alloc (Nat.le_refl _) _⟩)
    · have b0 : ((x0.toNat : Int) == 80) = false := u8_beq_false e0
      have z0 : ¬ (x0.toNat : Int) = 80 := by simpa using b0
      clear hh e0
      (go_enter Tryz.func110, Tryz.ntmps110; go_wp2_with (go_at_call 131; go_must (refine (RGet_ok _ _ _ x _ _ 12 4 _ HXA.out rfl rfl (by omega) (by omega) (by omega)).mono ?_; rintro e w' ⟨rfl, rfl⟩)); go_returns; rw [hf.out]; exact ⟨rfl, (Below.refl _ _).alloc (Nat.le_refl _) _⟩)
end Go.Proofs.YtaldjmhikebecaaGreat
