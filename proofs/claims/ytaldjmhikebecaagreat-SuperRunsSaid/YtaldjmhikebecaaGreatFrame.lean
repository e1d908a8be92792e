/- Layer 3 (frame): what the calls come to. -/
import Derived.Test.YtaldjmhikebecaaGreatCrcR
namespace Go.Proofs.YtaldjmhikebecaaGreat
open Go Go.RowKit
set_option maxRecDepth 100000
theorem Write_ok (k : UInt8) (s : Nat) (A : Option Addr) (n c : Nat) (l : List UInt8) (w : World) (h : Bs w A n c l) (hs : s < 18446744073709551616) (hn : n ≤ 16777216) :
    Calls Tryz.prog 70 #[.agg #[.int .u8 (k.toNat : Int), .int .u64 s, .slice A n c]] w (RetBE w (n + 20) (frameB k s l) 0) := by
  have H := Lib.hid h
  have HS := Lib.hid hs
  clear h hs
  go_enter Tryz.func70, Tryz.ntmps70
  go_wp2_with (first | (go_at_call 68; go_must (refine (Put_ok _ _ _ [80, 76, k, 0] _ 8 _ (cells_at _ _ _ 4 _ (by simp) rfl (by decide)) (by omega) (by omega) HS.out (by have := HS.out; omega) (by omega)).mono ?_; rintro e wx2 ⟨Ax2, cx2, rfl, hox2, hbx2⟩; have HO2 := Lib.hid hox2; have HB2 := Lib.hid hbx2; clear hox2 hbx2; have hcx := cell_keep HB2.out (a := ⟨w.heap.size, 2, none⟩) (v := .slice A n c) (by simp [go_sem]); have HL := Lib.hid (((H.out.alloc _).alloc _).below HB2.out))) | (go_at_call 99; go_must (refine (PutText_ok _ _ _ _ _ _ _ _ _ (Bs.of_own HO2.out) HL.out (by omega) (by omega)).mono ?_; rintro e wx3 ⟨Ax3, cx3, rfl, hox3, hbx3⟩; have HO3 := Lib.hid hox3; have HB3 := Lib.hid hbx3; clear hox3 hbx3)) | (go_at_call 100; go_must (refine (Seal_any _ _ _ _ (n + 20) _ (Bs.of_own HO3.out) (by omega) (by omega)).mono ?_; rintro e wx4 ⟨Ax4, cx4, rfl, hox4, hbx4⟩; have HO4 := Lib.hid hox4; have HB4 := Lib.hid hbx4; clear hox4 hbx4)))
  go_ret2
  have e : frameB k s l = sealB ([80, 76, k, 0] ++ leN s 8 ++ leN n 4 ++ l) := by rw [frameB, H.out.len]
  have h1 := HB2.out.size
  have h2 := HB3.out.size
  simp at h1
  exact ⟨Ax4, cx4, rfl, by rw [e]; exact own_weaken HO4.out (by omega), (below_alloc_then (below_alloc_then HB2.out)).trans ((HB3.out.mono (by omega)).trans (HB4.out.mono (by omega)))⟩

theorem RWrite_ok (k : UInt8) (s : Nat) (A : Option Addr) (n c : Nat) (l : List UInt8) (w : World) (h : Bs w A n c l) (hs : s < 18446744073709551616) (hn : n ≤ 16777216) :
    Calls Tryz.prog 80 #[.agg #[.int .u8 (k.toNat : Int), .int .u64 s, .slice A n c]] w (RetBE w (n + 20) (frameB k s l) 0) := by
  have H := Lib.hid h
  have HS := Lib.hid hs
  clear h hs
  go_enter Tryz.func80, Tryz.ntmps80
  go_wp2_with (first | (go_at_call 107; go_must (refine (RPut_ok _ _ _ [80, 76, k, 0] _ 8 _ rfl _ (cells_at _ _ _ 4 _ (by simp) rfl (by decide)) (by omega) (by omega) HS.out (by have := HS.out; omega) (by omega)).mono ?_; rintro e wx2 ⟨Ax2, cx2, rfl, hox2, hbx2⟩; have HO2 := Lib.hid hox2; have HB2 := Lib.hid hbx2; clear hox2 hbx2; have hcx := cell_keep HB2.out (a := ⟨w.heap.size, 2, none⟩) (v := .slice A n c) (by simp [go_sem]); have HL := Lib.hid (((H.out.alloc _).alloc _).below HB2.out))) | (go_at_call 108; go_must (refine (RPutText_ok _ _ _ _ _ _ _ _ _ (Bs.of_own HO2.out) HL.out (by omega) (by omega)).mono ?_; rintro e wx3 ⟨Ax3, cx3, rfl, hox3, hbx3⟩; have HO3 := Lib.hid hox3; have HB3 := Lib.hid hbx3; clear hox3 hbx3)) | (go_at_call 109; go_must (refine (RSeal_any _ _ _ _ (n + 20) _ (Bs.of_own HO3.out) (by omega) (by omega)).mono ?_; rintro e wx4 ⟨Ax4, cx4, rfl, hox4, hbx4⟩; have HO4 := Lib.hid hox4; have HB4 := Lib.hid hbx4; clear hox4 hbx4)))
  go_ret2
  have e : frameB k s l = sealB ([80, 76, k, 0] ++ leN s 8 ++ leN n 4 ++ l) := by rw [frameB, H.out.len]
  have h1 := HB2.out.size
  have h2 := HB3.out.size
  simp at h1
  exact ⟨Ax4, cx4, rfl, by rw [e]; exact own_weaken HO4.out (by omega), (below_alloc_then (below_alloc_then HB2.out)).trans ((HB3.out.mono (by omega)).trans (HB4.out.mono (by omega)))⟩

/-! ### Read -/
/-- What a read hands back: at a place. -/
def RetF (w : World) (p : Int) (r : FrameR) (e : Ending) (w' : World) : Prop :=
  match r with
  | .err c => e = .returned (.tuple #[.agg #[.int .u8 0, .int .u64 0, .slice none 0 0], .int .i64 0, .int .i64 c]) ∧ Below w.heap.size w w'
  | .ok k s b => ∃ A n c, e = .returned (.tuple #[.agg #[.int .u8 (k.toNat : Int), .int .u64 (s : Int), .slice A n c], .int .i64 (p + (n + 20)), .int .i64 0]) ∧ Bs w' A n c b ∧ (∀ ad, A = some ad → w.heap.size ≤ ad.block) ∧ Below w.heap.size w w'
theorem getD_cell {w : World} {ad : Addr} {n c : Nat} {l : List UInt8} (h : Bs w (some ad) n c l) (k : Nat) (hk : k < n) : w.cell? (ad.add k) = some (.int .u8 ((l.getD k 0).toNat : Int)) := by
  obtain ⟨ad', e, hc⟩ := h.at_ hk
  cases e
  rw [hc]
  simp [List.getD, List.getElem?_eq_getElem (show k < l.length by rw [h.len]; exact hk)]
theorem getD_cellp {w : World} {ad : Addr} {n c : Nat} {l : List UInt8} (h : Bs w (some ad) n c l) (k : Nat) (hk : k < n) (h0 : 0 < k) : w.cell? ⟨ad.block, ad.off + k, none⟩ = some (.int .u8 ((l.getD k 0).toNat : Int)) := by
  have := getD_cell h k hk
  rwa [Addr.add, if_neg (by omega)] at this
theorem u8_beq_true {x : UInt8} {k : Nat} (h : x = UInt8.ofNat k) (hk : k < 256 := by decide) : ((x.toNat : Int) == (k : Int)) = true := by
  subst h
  rw [beq_iff_eq, UInt8.toNat_ofNat_of_lt' hk]
theorem u8_beq_false {x : UInt8} {k : Nat} (h : ¬ x = UInt8.ofNat k) : ((x.toNat : Int) == (k : Int)) = false := by
  rw [beq_eq_false_iff_ne]
  intro e
  exact h (by rw [← UInt8.toNat_inj, UInt8.toNat_ofNat', ← show x.toNat = k from by omega]; exact (Nat.mod_eq_of_lt x.toNat_lt).symm)
set_option maxHeartbeats 4000000 in
theorem Read_any (A : Option Addr) (m c : Nat) (l : List UInt8) (p : Int) (at_ : Nat) (w : World) (h : Bs w A m c l) (hp : p = at_) (ha : at_ ≤ m) :
    Calls Tryz.prog 74 #[.slice A m c, .int .i64 p] w (RetF w p (readF (l.drop at_))) := by
  subst hp
  have hi := h.i64
  have hmc := h.2.1
  have hcm : c ≤ 9223372036854775807 := by have := h.2.2.1; unfold maxLen at this; omega
  have b1 : decide ((at_ : Int) < 0) = false := by simp
  have b2 : decide (m < at_) = false := by simp; omega
  obtain ⟨A', hcut, hcut2, hcut3⟩ := cutB A m c at_ ha
  have HX := Lib.hid (hcut2 w l h)
  have HX3 := Lib.hid hcut3
  clear hcut2 hcut3 h
  generalize l.drop at_ = x at HX ⊢
  have hmx : m - at_ ≤ 9223372036854775807 := by omega
  have hcx : c - at_ ≤ 9223372036854775807 := by omega
  have hamx : at_ + (m - at_) ≤ 9223372036854775807 := by omega
  generalize m - at_ = mx at hcut HX hmx hamx
  generalize c - at_ = cx at hcut HX hcx
  clear hcm hmc
  have hxl := Lib.hid HX.out.len
  have hmcx := HX.out.2.1
  have tok1 : True := trivial
  by_cases h16 : mx < 16
  · have hf : Hid (readF x = .err 10) := Lib.hid (by unfold readF; rw [if_pos (by rw [hxl.out]; exact h16)])
    go_enter Tryz.func74, Tryz.ntmps74
    go_wp2_with fail
    go_returns
    rw [hf.out]
    exact ⟨rfl, (Below.refl _ _).alloc (Nat.le_refl _) _⟩
  obtain ⟨ad, rfl⟩ : ∃ ad, A' = some ad := by obtain ⟨ad, e, _⟩ := HX.out.2.2.2 (by omega); exact ⟨ad, e⟩
  have HXA := Lib.hid (HX.out.alloc (.cells #[.int .u8 0, .int .u64 0, .slice none 0 0] 130))
  have hc0 : (w.alloc (.cells #[.int .u8 0, .int .u64 0, .slice none 0 0] 130)).cell? ad = some (.int .u8 ((x.getD 0 0).toNat : Int)) := by simpa [Addr.add] using getD_cell HXA.out 0 (by omega)
  have hc1 := getD_cellp HXA.out 1 (by omega) (by omega)
  have hc3 := getD_cellp HXA.out 3 (by omega) (by omega)
  have hnn : unle ((x.drop 12).take 4) < 4294967296 := by
    have := unle_lt ((x.drop 12).take 4)
    exact Nat.lt_of_lt_of_le this (Nat.le_trans (Nat.pow_le_pow_right (by omega) (List.length_take_le _ _)) (by decide))
  have hrd := Lib.hid (show readF x = if ¬ (x.getD 0 0 = 80 ∧ x.getD 1 0 = 76 ∧ x.getD 3 0 = 0 ∧ unle ((x.drop 12).take 4) ≤ 16777216) then .err 30
    else if mx < unle ((x.drop 12).take 4) + 20 then .err 10
    else if ¬ sealB (x.take (unle ((x.drop 12).take 4) + 16)) = x.take (unle ((x.drop 12).take 4) + 20) then .err 31
    else .ok (x.getD 2 0) (unle ((x.drop 4).take 8)) ((x.drop 16).take (unle ((x.drop 12).take 4))) from by
      unfold readF
      rw [if_neg (by rw [hxl.out]; exact h16), hxl.out])
  have hc2 := Lib.hid (getD_cell HX.out 2 (by omega))
  generalize x.getD 0 0 = x0 at hc0 hrd
  generalize x.getD 1 0 = x1 at hc1 hrd
  generalize x.getD 3 0 = x3 at hc3 hrd
  generalize hgx2 : x.getD 2 0 = x2 at hc2 hrd
  have HX2 := Lib.hid hgx2
  clear hgx2
  generalize hgn : unle ((x.drop 12).take 4) = nn at hnn hrd
  by_cases hh : x0 = 80 ∧ x1 = 76 ∧ x3 = 0 ∧ nn ≤ 16777216
  · obtain ⟨e0, e1, e3, hle⟩ := hh
    have z0 : (x0.toNat : Int) = 80 := by subst e0; rfl
    have z1 : (x1.toNat : Int) = 76 := by subst e1; rfl
    have z3 : (x3.toNat : Int) = 0 := by subst e3; rfl
    have hrd2 := Lib.hid (hrd.out.trans (if_neg (fun h => h ⟨e0, e1, e3, hle⟩)))
    rw [z0] at hc0
    rw [z1] at hc1
    rw [z3] at hc3
    clear e0 e1 e3 z0 z1 z3 hrd
    by_cases hsz : mx < nn + 20
    · have hf : Hid (readF x = .err 10) := Lib.hid (by rw [hrd2.out, if_pos hsz])
      clear hrd2
      (go_enter Tryz.func74, Tryz.ntmps74; go_wp2_with (go_at_call 75; go_must (refine (Get_ok _ _ _ x _ _ 12 4 _ HXA.out rfl rfl (by omega) (by omega) (by omega)).mono ?_; rintro e w' ⟨rfl, rfl⟩)); go_returns; rw [hf.out]; exact ⟨rfl, (Below.refl _ _).alloc (Nat.le_refl _) _⟩)
    · have hrd3 := Lib.hid (hrd2.out.trans (if_neg hsz))
      clear hrd2
      have HT := Lib.hid (HXA.out.take (k := nn + 20) (by omega) cx (by have := HXA.out.2.1; omega) HXA.out.2.2.1)
      have htk : (x.take (nn + 20)).take (nn + 16) = x.take (nn + 16) := by rw [List.take_take, Nat.min_eq_left (by omega)]
      by_cases hseal : sealB (x.take (nn + 16)) = x.take (nn + 20)
      · have hf : Hid (readF x = .ok x2 (unle ((x.drop 4).take 8)) ((x.drop 16).take nn)) := Lib.hid (by rw [hrd3.out, if_neg (fun h => h hseal)])
        clear hrd3
        have hseal := Lib.hid hseal
        have htk := Lib.hid htk
        go_enter Tryz.func74, Tryz.ntmps74
        go_wp2_with (first | (go_at_call 75; have _t := tok1; clear tok1; go_must (refine (Get_ok _ _ _ x _ _ 12 4 _ HXA.out rfl rfl (by omega) (by omega) (by omega)).mono ?_; clear _t; rintro e w' ⟨rfl, rfl⟩)) | (go_at_call 102; go_must (refine (Open_ok _ _ _ _ (nn + 16) _ HT.out (by omega) (by rw [htk.out]; exact hseal.out) (by omega)).mono ?_; rintro e wx ⟨Ax, cx2, rfl, hox, hbx⟩; have HO := Lib.hid hox; have HB := Lib.hid hbx; have r0 := cell_keep hbx (a := ⟨w.heap.size, 0, none⟩) (v := .int .u8 0) (by simp [go_sem]); have r1 := cell_keep hbx (a := ⟨w.heap.size, 1, none⟩) (v := .int .u64 0) (by simp [go_sem]); have r2 := cell_keep hbx (a := ⟨w.heap.size, 2, none⟩) (v := .slice none 0 0) (by simp [go_sem]); have f0 : ∀ o, wx.frozen? ⟨w.heap.size, o, none⟩ = false := (fun o => (hbx.frozen (p := ⟨w.heap.size, o, none⟩) (by simp)).trans (by simp [go_sem])); clear hbx; rw [htk.out] at hox; obtain ⟨adx, rfl⟩ : ∃ adx, Ax = some adx := (by obtain ⟨adx, e, _⟩ := (Bs.of_own hox).2.2.2 (by omega); exact ⟨adx, e⟩); have HBS := Lib.hid (Bs.of_own hox); have hcc2 := getD_cellp HBS.out 2 (by omega) (by omega); have hy2 : (x.take (nn + 16)).getD 2 0 = x2 := (by rw [← HX2.out]; simp [List.getD]); rw [hy2] at hcc2; obtain ⟨A3, hcut3, hcut4, hcut5⟩ := cutB (some adx) (nn + 16) cx2 16 (by omega); have hcut3' : ∀ W : World, (Instr.slice 51 (.slice (some adx) (nn + 16) cx2) (some (.int .i64 16)) none none).run Tryz.prog W = .ok (.slice A3 nn (cx2 - 16)) W := (by simpa using hcut3); have HB3 := Lib.hid (hcut4 _ _ HBS.out); clear hcut3; have HB5 := Lib.hid hcut5; have HBASE := Lib.hid (own_base hox); clear hox hcut4 hcut5 hy2)) | (go_at_call 75; go_must (refine (Get_ok _ _ _ _ _ _ 4 8 _ HBS.out rfl rfl (by omega) (by omega) (by omega)).mono ?_; rintro e w' ⟨rfl, rfl⟩)))
        have hs1 : (((x.take (nn + 16)).drop 4).take 8) = (x.drop 4).take 8 := by
          rw [List.drop_take, List.take_take, Nat.min_eq_left (by omega)]
        have hs2 : (x.take (nn + 16)).drop 16 = (x.drop 16).take nn := by
          rw [List.drop_take]; congr 1
        rw [hs1]
        have HS2 := Lib.hid hs2
        clear hs1 hs2
        generalize unle ((x.drop 4).take 8) = ser at hf ⊢
        go_region
        go_wp2
        have s0 := World.cell?_setCell_same' wx ⟨w.heap.size, 0, none⟩ (.int .u8 (x2.toNat : Int)) (by rw [r0]; rfl)
        refine bodyPost_ret (v := .tuple #[.agg #[.int .u8 (x2.toNat : Int), .int .u64 (ser : Int), .slice A3 nn (cx2 - 16)], .int .i64 ((at_ : Int) + (nn + 20)), .int .i64 0]) (by simp [results, Tryz.results74, go_sem, s0, r1, r2]) rfl ?_
        rw [hf.out]
        have hbw := below_alloc_then HB.out
        have hfr : ∀ ad', A3 = some ad' → w.heap.size < ad'.block := by
          intro ad' e
          obtain ⟨ad2, e2, hb2⟩ := HB5.out ad' e
          cases e2
          have := (HBASE.out adx.block rfl).1
          simp at this
          omega
        have hb3 := HB3.out
        rw [HS2.out] at hb3
        refine ⟨A3, nn, cx2 - 16, rfl, (((hb3.set (p := ⟨w.heap.size, 0, none⟩) ?_ _).set (p := ⟨w.heap.size, 1, none⟩) ?_ _).set (p := ⟨w.heap.size, 2, none⟩) ?_ _).drew, fun ad' e => Nat.le_of_lt (hfr ad' e), ?_⟩
        · exact fun ad' e => by have := hfr ad' e; simp; omega
        · exact fun ad' e => by have := hfr ad' e; simp; omega
        · exact fun ad' e => by have := hfr ad' e; simp; omega
        · go_grown
      · have hf : Hid (readF x = .err 31) := Lib.hid (by rw [hrd3.out, if_pos hseal])
        clear hrd3
        have hseal := Lib.hid hseal
        have htk := Lib.hid htk
        go_enter Tryz.func74, Tryz.ntmps74
        go_wp2_with (first | (go_at_call 75; go_must (refine (Get_ok _ _ _ x _ _ 12 4 _ HXA.out rfl rfl (by omega) (by omega) (by omega)).mono ?_; rintro e w' ⟨rfl, rfl⟩)) | (go_at_call 102; go_must (refine (Open_bad _ _ _ _ (nn + 16) _ HT.out (by omega) (by rw [htk.out]; exact hseal.out) (by omega)).mono ?_; rintro e wx ⟨rfl, hbx⟩; have HB := Lib.hid hbx; have r0 := cell_keep hbx (a := ⟨w.heap.size, 0, none⟩) (v := .int .u8 0) (by simp [go_sem]); have r1 := cell_keep hbx (a := ⟨w.heap.size, 1, none⟩) (v := .int .u64 0) (by simp [go_sem]); have r2 := cell_keep hbx (a := ⟨w.heap.size, 2, none⟩) (v := .slice none 0 0) (by simp [go_sem]); have f0 : ∀ o, wx.frozen? ⟨w.heap.size, o, none⟩ = false := (fun o => (hbx.frozen (p := ⟨w.heap.size, o, none⟩) (by simp)).trans (by simp [go_sem])); clear hbx)))
        have s0 := World.cell?_setCell_same' wx ⟨w.heap.size, 0, none⟩ (.int .u8 0) (by rw [r0]; rfl)
        refine bodyPost_ret (v := .tuple #[.agg #[.int .u8 0, .int .u64 0, .slice none 0 0], .int .i64 0, .int .i64 31]) (by simp [results, Tryz.results74, go_sem, s0, r1, r2]) rfl ?_
        rw [hf.out]
        have hbw := below_alloc_then HB.out
        refine ⟨rfl, ?_⟩
        go_grown
  · have hf : Hid (readF x = .err 30) := Lib.hid (by rw [hrd.out, if_pos hh])
    clear hrd
    by_cases e0 : x0 = 80
    · have b0 : ((x0.toNat : Int) == 80) = true := u8_beq_true e0
      have z0 : (x0.toNat : Int) = 80 := by simpa using b0
      by_cases e1 : x1 = 76
      · have b4 : ((x1.toNat : Int) == 76) = true := u8_beq_true e1
        have z1 : (x1.toNat : Int) = 76 := by simpa using b4
        by_cases e3 : x3 = 0
        · have b3 : ((x3.toNat : Int) == 0) = true := u8_beq_true e3
          have z3 : (x3.toNat : Int) = 0 := by simpa using b3
          have hbig : 16777216 < nn := by
            rcases Nat.lt_or_ge 16777216 nn with h | h
            · exact h
            · exact absurd ⟨e0, e1, e3, h⟩ hh
          rw [z0] at hc0
          rw [z1] at hc1
          rw [z3] at hc3
          clear hh e0 e1 e3 z0 z1 z3 b0 b3 b4
          (go_enter Tryz.func74, Tryz.ntmps74; go_wp2_with (go_at_call 75; go_must (refine (Get_ok _ _ _ x _ _ 12 4 _ HXA.out rfl rfl (by omega) (by omega) (by omega)).mono ?_; rintro e w' ⟨rfl, rfl⟩)); go_returns; rw [hf.out]; exact ⟨rfl, (Below.refl _ _).alloc (Nat.le_refl _) _⟩)
        · have b3 : ((x3.toNat : Int) == 0) = false := u8_beq_false e3
          have z3 : ¬ (x3.toNat : Int) = 0 := by simpa using b3
          rw [z0] at hc0
          rw [z1] at hc1
          clear hh e0 e1 e3 z0 z1 b0 b4
          (go_enter Tryz.func74, Tryz.ntmps74; go_wp2_with (go_at_call 75; go_must (refine (Get_ok _ _ _ x _ _ 12 4 _ HXA.out rfl rfl (by omega) (by omega) (by omega)).mono ?_; rintro e w' ⟨rfl, rfl⟩)); go_returns; rw [hf.out]; exact ⟨rfl, (Below.refl _ _).alloc (Nat.le_refl _) _⟩)
      · have b4 : ((x1.toNat : Int) == 76) = false := u8_beq_false e1
        have z1 : ¬ (x1.toNat : Int) = 76 := by simpa using b4
        rw [z0] at hc0
        clear hh e0 e1 z0 b0
        (go_enter Tryz.func74, Tryz.ntmps74; go_wp2_with (go_at_call 75; go_must (refine (Get_ok _ _ _ x _ _ 12 4 _ HXA.out rfl rfl (by omega) (by omega) (by omega)).mono ?_; rintro e w' ⟨rfl, rfl⟩)); go_returns; rw [hf.out]; exact ⟨rfl, (Below.refl _ _).alloc (Nat.le_refl _) _⟩)
    · have b0 : ((x0.toNat : Int) == 80) = false := u8_beq_false e0
      have z0 : ¬ (x0.toNat : Int) = 80 := by simpa using b0
      clear hh e0
      (go_enter Tryz.func74, Tryz.ntmps74; go_wp2_with (go_at_call 75; go_must (refine (Get_ok _ _ _ x _ _ 12 4 _ HXA.out rfl rfl (by omega) (by omega) (by omega)).mono ?_; rintro e w' ⟨rfl, rfl⟩)); go_returns; rw [hf.out]; exact ⟨rfl, (Below.refl _ _).alloc (Nat.le_refl _) _⟩)
end Go.Proofs.YtaldjmhikebecaaGreat
