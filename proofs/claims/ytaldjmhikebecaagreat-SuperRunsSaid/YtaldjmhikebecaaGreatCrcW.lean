/- Layer 2 (crc): what the calls come to. -/
import Derived.Test.YtaldjmhikebecaaGreatOctR
import Derived.Test.YtaldjmhikebecaaGreatCrc
namespace Go.Proofs.YtaldjmhikebecaaGreat
open Go Go.RowKit
set_option maxRecDepth 100000
theorem nib_index (i : Nat) (h : i < 16) (w : World) : (Instr.index 256 (.agg #[.int .u32 0, .int .u32 274646895, .int .u32 549293790, .int .u32 820201905, .int .u32 1098587580, .int .u32 1361435347, .int .u32 1640403810, .int .u32 1905808397, .int .u32 2197175160, .int .u32 2460548119, .int .u32 2722870694, .int .u32 2987750089, .int .u32 3280807620, .int .u32 3553878443, .int .u32 3811616794, .int .u32 4084100981]) (.int .u32 (i : Int))).run Tryz.prog w = .ok (.int .u32 (crcTab i : Nat)) w := by
  rcases i with _ | _ | _ | _ | _ | _ | _ | _ | _ | _ | _ | _ | _ | _ | _ | _ | i
  all_goals first | (exfalso; omega) | kernel_rfl
theorem nibble_any (p : Int) (w : World) (h0 : 0 ≤ p) (h1 : p < 16) : Calls Tryz.prog 140 #[.int .u32 p] w fun e w' => e = .returned (.int .u32 (crcTab p.toNat : Nat)) ∧ w = w' := by
  obtain ⟨i, rfl⟩ := Int.eq_ofNat_of_zero_le h0
  have h : i < 16 := by omega
  rw [Int.toNat_natCast]
  clear h0 h1
  have hx := nib_index i h
  go_enter Tryz.func140, Tryz.ntmps140
  go_wp2
  go_ret
  exact ⟨rfl, rfl⟩
theorem not_u32 (s : Nat) (h : s < 4294967296) : bits .xor .u32 IntKind.u32.max (s : Int) = ((4294967295 - s : Nat) : Int) := by
  rw [← not32 s h, ← u32_xor_nat _ _ (by omega) h]
  rfl
theorem and15_u32 (u : Nat) (h : u < 4294967296) : bits .and .u32 (u : Int) 15 = ((u % 16 : Nat) : Int) := by
  rw [show (15 : Int) = ((15 : Nat) : Int) from rfl, u32_and_nat _ _ h (by omega), show (15 : Nat) = 2 ^ 4 - 1 from rfl, Nat.and_two_pow_sub_one_eq_mod]
theorem half_u32 (u : Nat) (h : u < 4294967296) : bits .xor .u32 ((u : Int) / 16) ((crcTab (u % 16) : Nat) : Int) = ((crcSteps 4 u : Nat) : Int) := by
  rw [show (u : Int) / 16 = ((u / 16 : Nat) : Int) from by simp, u32_xor_nat _ _ (by omega) (crcTab_lt ⟨u % 16, Nat.mod_lt _ (by omega)⟩), crc_half]
theorem More_any (A : Option Addr) (n c : Nat) (l : List UInt8) (s : Nat) (w : World) (h : Bs w A n c l) (hs : s < 4294967296) :
    Calls Tryz.prog 121 #[.int .u32 s, .slice A n c] w fun e w' => e = .returned (.int .u32 (crcMore s l : Nat)) ∧ w = w' := by
  have hi := h.i64
  have HL := Lib.hid h.len
  have H := Lib.hid h
  clear h
  have hn := not_u32 s hs
  go_enter Tryz.func121, Tryz.ntmps121
  go_wp2_with fail
  clear hn
  go_loop [5, 12] (fun u i => ∃ k : Nat, k ≤ n ∧ i = .int .i64 k ∧ u = .int .u32 (crcFold (4294967295 - s) (l.take k) : Nat)) (fun _ i => n - (intOf i).toNat)
  case atStart => exact ⟨0, Nat.zero_le _, rfl, rfl⟩
  case round =>
    obtain ⟨k, hk, rfl, rfl⟩ := hrel
    have htb : crcFold (4294967295 - s) (l.take k) < 4294967296 := crcFold_lt _ _ (by omega)
    by_cases hlt : k < n
    · obtain ⟨ad, rfl, hc⟩ := H.out.at_ hlt
      have hstep := Lib.hid (crcFold_take (4294967295 - s) l k (by have := HL.out; omega))
      generalize (l[k]'(by have := HL.out; omega)) = x at hc hstep
      have hxb := x.toNat_lt
      generalize crcFold (4294967295 - s) (l.take k) = t at htb hstep ⊢
      have e1 := u32_xor_nat t x.toNat htb (by omega)
      have hub : t ^^^ x.toNat < 4294967296 := xor_lt htb (by omega)
      have hstep2 := Lib.hid (hstep.out.trans (crc_byte t x.toNat))
      clear hstep
      generalize t ^^^ x.toNat = u at e1 hub hstep2
      have e2 := and15_u32 u hub
      have e3 := half_u32 u hub
      have hvb := crcSteps_lt 4 u hub
      generalize crcSteps 4 u = v at e3 hvb hstep2
      have e4 := and15_u32 v hvb
      have e5 := half_u32 v hvb
      go_wp2_with (go_at_call 140; go_must (refine (nibble_any _ _ (by omega) (by omega)).mono ?_; rintro e w' ⟨rfl, rfl⟩))
      exact ⟨⟨k + 1, by omega, by go_num, by rw [hstep2.out, e5]⟩, by simp [intOf]; omega⟩
    · have hn := not_u32 _ htb
      obtain rfl : k = n := by omega
      go_wp2
      go_ret
      exact ⟨by rw [List.take_of_length_le (by rw [HL.out]; exact Nat.le_refl _)]; rfl, rfl⟩

/-- The sum of one row. -/
theorem Sum_one (A0 : Option Addr) (c0 : Nat) (A : Option Addr) (n c : Nat) (l : List UInt8) (w : World) (h : Bs w A n c l) (hr : Rd w 1 A0 1 c0 [.slice A n c]) :
    Calls Tryz.prog 85 #[.slice A0 1 c0] w fun e w' => e = .returned (.int .u32 (crcSum l : Nat)) ∧ w = w' := by
  obtain ⟨ad, rfl, hc⟩ := hr.at_ (k := 0) (by omega)
  simp only [List.getElem_cons_zero] at hc
  have hc0 : w.cell? (ad.add 0) = some (.slice A n c) := hc
  have hc : w.cell? ad = some (.slice A n c) := by simpa [Addr.add] using hc0
  have H := Lib.hid h
  clear h hr
  go_enter Tryz.func85, Tryz.ntmps85
  go_wp2_with fail
  go_loop [3, 8] (fun u i => (i = .int .i64 0 ∧ u = .int .u32 0) ∨ (i = .int .i64 1 ∧ u = .int .u32 (crcSum l : Nat))) (fun _ i => 1 - (intOf i).toNat)
  case atStart => exact .inl ⟨rfl, rfl⟩
  case round =>
    rcases hrel with ⟨rfl, rfl⟩ | ⟨rfl, rfl⟩
    · go_wp2_with (go_at_call 121; go_must (refine (More_any _ _ _ l 0 _ H.out (by omega)).mono ?_; rintro e w' ⟨rfl, rfl⟩))
      exact ⟨.inr ⟨rfl, rfl⟩, by simp [intOf]⟩
    · go_wp2
      go_ret
      exact ⟨rfl, rfl⟩

theorem le4 (s : Nat) (h : s < 4294967296) : bytes (leN s 4) = [.int .u8 ((s : Int) % 256), .int .u8 ((s : Int) / 256 % 256), .int .u8 ((s : Int) / 65536 % 256), .int .u8 ((s : Int) / 16777216)] := by
  have e : (s : Int) / 16777216 = (s : Int) / 16777216 % 256 := by omega
  rw [e]
  simp only [leN, bytes, List.nil_append, List.cons_append, List.map_cons, List.map_nil, byt, byte_mod]
  simp
theorem seal_any (A : Option Addr) (n c : Nat) (l : List UInt8) (s : Nat) (w : World) (h : Bs w A n c l) (hs : s < 4294967296) (hb : n + 4 ≤ 140737488355328) :
    Calls Tryz.prog 125 #[.slice A n c, .int .u32 s] w (RetB w (n + 4) (l ++ leN s 4)) := by
  have H := Lib.hid h
  have HB := Lib.hid hb
  clear h hb
  go_enter Tryz.func125, Tryz.ntmps125
  go_wp2_with (first | (go_at_call 96; go_must (refine (Clone_any _ _ _ _ _ H.out (by have := HB.out; omega)).mono ?_; rintro e wx2 ⟨Ax2, cx2, rfl, hox2, hbx2⟩; have HO2 := Lib.hid hox2; have HB2 := Lib.hid hbx2; clear hox2 hbx2)) | (at_builtin; go_must (refine wpList_append_rd rfl _ _ _ 5 rfl (.int .u8 0) 1 1 Tryz.underlying51 info_u8 rfl (by decide) (HO2.out.alloc _) rfl (cells_new _ _ _ 4 rfl (by decide)) rfl (by simp [Value.oneCell']) ?_ ?c1 ?c2 ?c3; intro A1 c1 w1 ho1 hg1)))
  case c1 => have := HB.out; omega
  case c2 => have := HB.out; unfold maxLen; omega
  case c3 => have := HB2.out.size; simp; omega
  go_ret
  exact ⟨A1, c1, rfl, by rw [bytes_append l, le4 s hs]; exact ho1, hg1.below (HB2.out.alloc HB2.out.size _) (HO2.out.alloc _) (Nat.le_refl _)⟩

theorem Equal_any (A : Option Addr) (n c : Nat) (l : List UInt8) (A2 : Option Addr) (n2 c2 : Nat) (l2 : List UInt8) (w : World) (h : Bs w A n c l) (h2 : Bs w A2 n2 c2 l2) :
    Calls Tryz.prog 126 #[.slice A n c, .slice A2 n2 c2] w fun e w' => e = .returned (.bool (decide (l = l2))) ∧ ∃ d, w' = w.drewN d := by
  have hi := h.i64
  have hi2 := h2.i64
  have HL := Lib.hid h.len
  have HL2 := Lib.hid h2.len
  have H := Lib.hid h
  have H2 := Lib.hid h2
  clear h h2
  by_cases hn : n = n2
  · subst hn
    go_enter Tryz.func126, Tryz.ntmps126
    go_wp2_with fail
    go_loopw [13] (fun i wr => ∃ k : Nat, k ≤ n ∧ i = .int .i64 k ∧ Hid (l.take k = l2.take k) ∧ Hid (∃ d, wr = w.drewN d)) (fun i _ => n - (intOf i).toNat)
    case atStart => exact ⟨0, Nat.zero_le _, rfl, rfl, 0, rfl⟩
    case round =>
      obtain ⟨k, hk, rfl, heq, hd⟩ := hrel
      by_cases hlt : k < n
      · obtain ⟨ad, rfl, hc⟩ := H.out.at_ hlt
        obtain ⟨ad2, rfl, hc2⟩ := H2.out.at_ hlt
        obtain ⟨d, rfl⟩ := hd.out
        have h1 := Lib.hid (show l.take (k + 1) = l.take k ++ [l[k]'(by have := HL.out; omega)] from List.take_succ_eq_append_getElem _)
        have h2 := Lib.hid (show l2.take (k + 1) = l2.take k ++ [l2[k]'(by have := HL2.out; omega)] from List.take_succ_eq_append_getElem _)
        generalize (l[k]'(by have := HL.out; omega)) = x at hc h1
        generalize (l2[k]'(by have := HL2.out; omega)) = y at hc2 h2
        by_cases hxy : x = y
        · subst hxy
          go_wp2_with fail
          go_quiet (fail)
          go_wp2
          refine ⟨⟨k + 1, by omega, by go_num, Lib.hid (by rw [h1.out, h2.out, heq.out]), Lib.hid ⟨_, rfl⟩⟩, by simp [intOf]; omega⟩
        · have hb : ((x.toNat : Int) == (y.toNat : Int)) = false := by
            rw [beq_eq_false_iff_ne]
            exact fun e => hxy (UInt8.toNat_inj.1 (by omega))
          have hb2 : (!((x.toNat : Int) == (y.toNat : Int))) = true := by rw [hb]; rfl
          have hfin : Hid (decide (l = l2) = false) := Lib.hid (by
            rw [decide_eq_false_iff_not]
            rintro rfl
            have := h1.out.symm.trans h2.out
            simp at this
            exact hxy this)
          clear hxy
          go_wp2_with fail
          go_quiet (fail)
          go_wp2
          go_ret
          exact ⟨by rw [hfin.out]; rfl, ⟨_, World.drewN_drewN ..⟩⟩
      · obtain rfl : k = n := by omega
        have hfin : Hid (decide (l = l2) = true) := Lib.hid (by
          rw [decide_eq_true_iff]
          have := heq.out
          rwa [List.take_of_length_le (by rw [HL.out]; exact Nat.le_refl _), List.take_of_length_le (by rw [HL2.out]; exact Nat.le_refl _)] at this)
        go_wp2
        go_ret
        exact ⟨by rw [hfin.out]; rfl, hd.out⟩
  · have hfin : Hid (decide (l = l2) = false) := Lib.hid (by
      rw [decide_eq_false_iff_not]
      rintro rfl
      exact hn (by rw [← HL.out, ← HL2.out]))
    have hb : ((n : Int) == (n2 : Int)) = false := by rw [beq_eq_false_iff_ne]; omega
    go_enter Tryz.func126, Tryz.ntmps126
    go_wp2
    go_ret
    exact ⟨by rw [hfin.out]; rfl, 0, rfl⟩

theorem Equal_yes (A : Option Addr) (n c : Nat) (l : List UInt8) (A2 : Option Addr) (n2 c2 : Nat) (l2 : List UInt8) (w : World) (h : Bs w A n c l) (h2 : Bs w A2 n2 c2 l2) (he : l = l2) :
    Calls Tryz.prog 126 #[.slice A n c, .slice A2 n2 c2] w fun e w' => e = .returned (.bool true) ∧ ∃ d, w' = w.drewN d := by
  have := Equal_any A n c l A2 n2 c2 l2 w h h2
  rwa [decide_eq_true he] at this
theorem Equal_no (A : Option Addr) (n c : Nat) (l : List UInt8) (A2 : Option Addr) (n2 c2 : Nat) (l2 : List UInt8) (w : World) (h : Bs w A n c l) (h2 : Bs w A2 n2 c2 l2) (he : ¬ l = l2) :
    Calls Tryz.prog 126 #[.slice A n c, .slice A2 n2 c2] w fun e w' => e = .returned (.bool false) ∧ ∃ d, w' = w.drewN d := by
  have := Equal_any A n c l A2 n2 c2 l2 w h h2
  rwa [decide_eq_false he] at this
theorem RetB.alloc {w : World} {o : Obj} {n : Nat} {l : List UInt8} {e : Ending} {w' : World} (h : RetB (w.alloc o) n l e w') : RetB w n l e w' := by
  obtain ⟨A, c, he, ho, hb⟩ := h
  exact ⟨A, c, he, own_weaken ho (by simp), below_alloc_then hb⟩
theorem Seal_any (A : Option Addr) (n c : Nat) (l : List UInt8) (k : Nat) (w : World) (h : Bs w A n c l) (hk : k = n + 4) (hb : n + 4 ≤ 140737488355328) :
    Calls Tryz.prog 100 #[.slice A n c] w (RetB w k (sealB l)) := by
  subst hk
  have H := Lib.hid h
  have HB := Lib.hid hb
  clear h hb
  go_enter Tryz.func100, Tryz.ntmps100
  go_wp2_with (first | (go_at_call 85; go_must (refine (Sum_one _ _ _ _ _ l _ (H.out.alloc _) (cell_new1 _ _ _)).mono ?_; rintro e w' ⟨rfl, rfl⟩)) | (go_at_call 125; go_must (refine (seal_any _ _ _ l (crcSum l) _ (H.out.alloc _) (crcSum_lt l) HB.out).mono ?_; rintro e wx2 ⟨Ax2, cx2, rfl, hox2, hbx2⟩; have HO2 := Lib.hid hox2; have HB2 := Lib.hid hbx2; clear hox2 hbx2)))
  go_ret
  exact RetB.alloc (o := .cells #[.slice A n c] 51) ⟨Ax2, cx2, rfl, HO2.out, HB2.out⟩
theorem Open_ok (A : Option Addr) (n c : Nat) (l : List UInt8) (k : Nat) (w : World) (h : Bs w A n c l) (hk : n = k + 4) (hs : sealB (l.take k) = l) (hb : n ≤ 140737488355328) :
    Calls Tryz.prog 102 #[.slice A n c] w (RetBE w k (l.take k) 0) := by
  obtain rfl : k = n - 4 := by omega
  have h4 : 4 ≤ n := by omega
  clear hk
  have hi := h.i64
  have H := Lib.hid h
  have HB := Lib.hid hb
  have hnc : n ≤ c := h.2.1
  have hcm : c ≤ 9223372036854775807 := by have := h.2.2.1; unfold maxLen at this; omega
  have HT := Lib.hid (h.take (k := n - 4) (by omega) c (by omega) h.2.2.1)
  have HS := Lib.hid hs
  clear h hb hs
  go_enter Tryz.func102, Tryz.ntmps102
  go_wp2_with (first | (go_at_call 100; go_must (refine (Seal_any _ _ _ _ n _ HT.out (by omega) (by have := HB.out; omega)).mono ?_; rintro e wx2 ⟨Ax2, cx2, rfl, hox2, hbx2⟩; have HO2 := Lib.hid hox2; have HB2 := Lib.hid hbx2; clear hox2 hbx2)) | (go_at_call 126; go_must (refine (Equal_yes _ _ _ _ _ _ _ _ _ (Bs.of_own HO2.out) (H.out.below HB2.out) HS.out).mono ?_; rintro e w' ⟨rfl, d, rfl⟩)) | (go_at_call 96; go_must (refine (Clone_any _ _ _ _ _ ((HT.out.below HB2.out).drewN _) (by have := HB.out; omega)).mono ?_; rintro e wx3 ⟨Ax3, cx3, rfl, hox3, hbx3⟩; have HO3 := Lib.hid hox3; have HB3 := Lib.hid hbx3; clear hox3 hbx3)))
  go_ret2
  exact ⟨Ax3, cx3, rfl, own_weaken HO3.out (by have := HB2.out.size; simpa using this), (below_drewN HB2.out d).trans (HB3.out.mono (by have := HB2.out.size; simpa using this))⟩
theorem Open_bad (A : Option Addr) (n c : Nat) (l : List UInt8) (k : Nat) (w : World) (h : Bs w A n c l) (hk : n = k + 4) (hs : ¬ sealB (l.take k) = l) (hb : n ≤ 140737488355328) :
    Calls Tryz.prog 102 #[.slice A n c] w fun e w' => e = .returned (.tuple #[.slice none 0 0, .int .i64 31]) ∧ Below w.heap.size w w' := by
  obtain rfl : k = n - 4 := by omega
  have h4 : 4 ≤ n := by omega
  clear hk
  have hi := h.i64
  have H := Lib.hid h
  have HB := Lib.hid hb
  have hnc : n ≤ c := h.2.1
  have hcm : c ≤ 9223372036854775807 := by have := h.2.2.1; unfold maxLen at this; omega
  have HT := Lib.hid (h.take (k := n - 4) (by omega) c (by omega) h.2.2.1)
  have HS := Lib.hid hs
  clear h hb hs
  go_enter Tryz.func102, Tryz.ntmps102
  go_wp2_with (first | (go_at_call 100; go_must (refine (Seal_any _ _ _ _ n _ HT.out (by omega) (by have := HB.out; omega)).mono ?_; rintro e wx2 ⟨Ax2, cx2, rfl, hox2, hbx2⟩; have HO2 := Lib.hid hox2; have HB2 := Lib.hid hbx2; clear hox2 hbx2)) | (go_at_call 126; go_must (refine (Equal_no _ _ _ _ _ _ _ _ _ (Bs.of_own HO2.out) (H.out.below HB2.out) HS.out).mono ?_; rintro e w' ⟨rfl, d, rfl⟩)))
  go_ret2
  exact ⟨rfl, below_drewN HB2.out d⟩
end Go.Proofs.YtaldjmhikebecaaGreat
