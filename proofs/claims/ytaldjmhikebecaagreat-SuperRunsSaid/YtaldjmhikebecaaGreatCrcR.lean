/- Layer 2's reference: what the calls come to. -/
import Derived.Test.YtaldjmhikebecaaGreatCrcW
import Derived.Deep.RegionWith
import Derived.Deep.RegionHeld3
namespace Go.Proofs.YtaldjmhikebecaaGreat
open Go Go.RowKit
set_option maxRecDepth 100000
theorem Rstep_any (p : Int) (s : Nat) (w : World) (hp : p = s) (hs : s < 4294967296) : Calls Tryz.prog 175 #[.int .u32 p] w fun e w' => e = .returned (.int .u32 (crcStep s : Nat)) ∧ w = w' := by
  subst hp
  have hx : bits .xor .u32 ((s : Int) / 2) 2197175160 = ((s / 2 ^^^ 2197175160 : Nat) : Int) := by
    rw [show (s : Int) / 2 = ((s / 2 : Nat) : Int) from by simp, show (2197175160 : Int) = ((2197175160 : Nat) : Int) from rfl, u32_xor_nat _ _ (by omega) (by omega)]
  by_cases h : s % 2 = 1
  · have hb : ((s : Int) % 2 == 1) = true := by rw [beq_iff_eq]; omega
    have hf : Hid (crcStep s = s / 2 ^^^ 2197175160) := Lib.hid (by unfold crcStep; rw [if_pos h])
    clear h
    go_enter Tryz.func175, Tryz.ntmps175
    go_wp2
    go_ret
    exact ⟨by rw [hf.out]; rfl, rfl⟩
  · have hb : ((s : Int) % 2 == 1) = false := by rw [beq_eq_false_iff_ne]; omega
    have hf : Hid (crcStep s = s / 2) := Lib.hid (by unfold crcStep; rw [if_neg h])
    clear h
    go_enter Tryz.func175, Tryz.ntmps175
    go_wp2
    go_ret
    exact ⟨by rw [hf.out]; simp, rfl⟩
theorem RMore_any (A : Option Addr) (n c : Nat) (l : List UInt8) (s : Nat) (w : World) (h : Bs w A n c l) (hs : s < 4294967296) :
    Calls Tryz.prog 158 #[.int .u32 s, .slice A n c] w fun e w' => e = .returned (.int .u32 (crcMore s l : Nat)) ∧ w = w' := by
  have hi := h.i64
  have HL := Lib.hid h.len
  have H := Lib.hid h
  clear h
  have hn := not_u32 s hs
  go_enter Tryz.func158, Tryz.ntmps158
  go_wp2_with fail
  clear hn
  go_loop [5, 6] (fun u i => ∃ k : Nat, k ≤ n ∧ i = .int .i64 k ∧ u = .int .u32 (crcFold (4294967295 - s) (l.take k) : Nat)) (fun _ i => n - (intOf i).toNat)
  case atStart => exact ⟨0, Nat.zero_le _, rfl, rfl⟩
  case round =>
    obtain ⟨k, hk, rfl, rfl⟩ := hrel
    have htb : crcFold (4294967295 - s) (l.take k) < 4294967296 := crcFold_lt _ _ (by omega)
    by_cases hlt : k < n
    · obtain ⟨ad, rfl, hc⟩ := H.out.at_ hlt
      have hstep := Lib.hid (crcFold_take (4294967295 - s) l k (by have := HL.out; omega))
      generalize (l[k]'(by have := HL.out; omega)) = x at hc hstep
      have hxb := x.toNat_lt
      generalize crcFold (4294967295 - s) (l.take k) = t at htb hstep ⊢
      have e1 := u32_xor_nat t x.toNat htb (by omega)
      have hub : t ^^^ x.toNat < 4294967296 := xor_lt htb (by omega)
      have hstep2 := Lib.hid (show crcFold (4294967295 - s) (l.take (k + 1)) = crcSteps 8 (t ^^^ x.toNat) from hstep.out)
      clear hstep
      generalize t ^^^ x.toNat = u at e1 hub hstep2
      go_wp2
      go_loop [5, 7] (fun y i => ∃ j : Nat, j ≤ 8 ∧ i = .int .i64 j ∧ y = .int .u32 (crcSteps j u : Nat)) (fun _ i => 8 - (intOf i).toNat)
      case atStart => exact ⟨0, by omega, rfl, rfl⟩
      case round =>
        obtain ⟨j, hj, rfl, rfl⟩ := hrel
        have hvb := crcSteps_lt j u hub
        by_cases hlt2 : j < 8
        · go_wp2_with (go_at_call 175; go_must (refine (Rstep_any _ _ _ rfl hvb).mono ?_; rintro e w' ⟨rfl, rfl⟩))
          exact ⟨⟨j + 1, by omega, by go_num, rfl⟩, by simp [intOf]; omega⟩
        · obtain rfl : j = 8 := by omega
          go_wp2
          exact ⟨⟨k + 1, by omega, by go_num, by rw [hstep2.out]⟩, by simp [intOf]; omega⟩
    · have hn := not_u32 _ htb
      obtain rfl : k = n := by omega
      go_wp2
      go_ret
      exact ⟨by rw [List.take_of_length_le (by rw [HL.out]; exact Nat.le_refl _)]; rfl, rfl⟩
theorem ROf_any (A : Option Addr) (n c : Nat) (l : List UInt8) (w : World) (h : Bs w A n c l) :
    Calls Tryz.prog 130 #[.slice A n c] w fun e w' => e = .returned (.int .u32 (crcSum l : Nat)) ∧ w = w' := by
  have H := Lib.hid h
  clear h
  go_enter Tryz.func130, Tryz.ntmps130
  go_wp2_with (go_at_call 158; go_must (refine (RMore_any _ _ _ l 0 _ H.out (by omega)).mono ?_; rintro e w' ⟨rfl, rfl⟩))
  go_ret
  exact ⟨rfl, rfl⟩
theorem RSeal_any (A : Option Addr) (n c : Nat) (l : List UInt8) (k : Nat) (w : World) (h : Bs w A n c l) (hk : k = n + 4) (hb : n + 4 ≤ 140737488355328) :
    Calls Tryz.prog 109 #[.slice A n c] w (RetB w k (sealB l)) := by
  subst hk
  have H := Lib.hid h
  have HB := Lib.hid hb
  have HR := Lib.hid (h.alloc (.cells #[] 5))
  have ho := Lib.hid (own_lit0 w 5)
  have hs := crcSum_lt l
  have h4 := Lib.hid (le4 _ hs)
  have hss := Lib.hid (show sealB l = l ++ leN (crcSum l) 4 from rfl)
  clear h hb
  go_enter Tryz.func109, Tryz.ntmps109
  have tok1 : True := trivial
  go_wp2_with (first | (go_at_call 130; go_must (refine (ROf_any _ _ _ l _ H.out).mono ?_; rintro e w' ⟨rfl, rfl⟩; generalize crcSum l = s at hs h4 hss)) | (at_builtin; have _t := tok1; clear tok1; go_must (refine wpList_append_rd rfl _ _ _ 5 rfl (.int .u8 0) 1 1 Tryz.underlying51 info_u8 rfl (by decide) ho.out rfl HR.out rfl (bytes_oneCell l) ?_ ?c1a ?c2a ?c3a; clear _t; intro A1a c1a w1a ho1a hg1a; (simp only [Nat.zero_add, List.nil_append] at ho1a hg1a ⊢; have HO1 := Lib.hid ho1a; have HG1 := Lib.hid hg1a; clear ho1a hg1a))) | (at_builtin; go_must (refine wpList_append_rd rfl _ _ _ 5 rfl (.int .u8 0) 1 1 Tryz.underlying51 info_u8 rfl (by decide) (HO1.out.alloc _) rfl (cells_new _ _ _ 4 rfl (by decide)) rfl (by simp [Value.oneCell']) ?_ ?c1 ?c2 ?c3; intro A1 c1 w1 ho1 hg1)))
  case c1a => have := HB.out; omega
  case c2a => have := HB.out; unfold maxLen; omega
  case c3a => simp
  case c1 => have := HB.out; omega
  case c2 => have := HB.out; unfold maxLen; omega
  case c3 => have := HG1.out.g.size; simp at this ⊢; omega
  go_ret
  have hb1 := HG1.out.below ((Below.refl _ _).alloc (Nat.le_refl _) _) ho.out (Nat.le_refl _)
  exact ⟨A1, c1, rfl, by rw [hss.out, bytes_append l, h4.out]; exact ho1, hg1.below (hb1.alloc hb1.size _) (HO1.out.alloc _) (Nat.le_refl _)⟩

theorem str_bytes {w : World} {A : Option Addr} {n c : Nat} {l : List UInt8} (h : Bs w A n c l) : (convert 51 9 (.slice A n c)).run Tryz.prog w = .ok (.string (strB l)) w :=
  run_string_bytes 51 9 5 Tryz.underlying51 Tryz.underlying9 Tryz.underlying5 h
attribute [local go_sem] strB_toList
theorem ROpen_ok (A : Option Addr) (n c : Nat) (l : List UInt8) (k : Nat) (w : World) (h : Bs w A n c l) (hk : n = k + 4) (hs : sealB (l.take k) = l) (hb : n ≤ 140737488355328) :
    Calls Tryz.prog 132 #[.slice A n c] w (RetBE w k (l.take k) 0) := by
  obtain rfl : k = n - 4 := by omega
  have h4 : 4 ≤ n := by omega
  clear hk
  have hi := h.i64
  have H := Lib.hid h
  have HB := Lib.hid hb
  have hnc : n ≤ c := h.2.1
  have hcm : c ≤ 9223372036854775807 := by have := h.2.2.1; unfold maxLen at this; omega
  have HT := Lib.hid (h.take (k := n - 4) (by omega) c (by omega) h.2.2.1)
  have HTA := Lib.hid (HT.out.alloc (.cells #[] 5))
  have ho := Lib.hid (own_lit0 w 5)
  have HS := Lib.hid hs
  clear h hb hs
  go_enter Tryz.func132, Tryz.ntmps132
  go_wp2_with (at_builtin; go_must (refine wpList_append_rd rfl _ _ _ 5 rfl (.int .u8 0) 1 1 Tryz.underlying51 info_u8 rfl (by decide) ho.out rfl HTA.out rfl (bytes_oneCell _) ?_ ?c1 ?c2 ?c3; intro A1 c1 w1 ho1 hg1))
  case c1 => have := HB.out; omega
  case c2 => have := HB.out; unfold maxLen; omega
  case c3 => simp
  simp only [Nat.zero_add, List.nil_append] at ho1 hg1 ⊢
  have HO1 := Lib.hid ho1
  have HB1 := Lib.hid (hg1.below ((Below.refl _ _).alloc (Nat.le_refl _) _) ho.out (Nat.le_refl _))
  clear ho1 hg1
  have e1 := str_bytes (H.out.below HB1.out).drew
  have hq : (sealB (l.take (n - 4)) == l) = true := by rw [beq_iff_eq]; exact HS.out
  go_region_with (go_at_call 109; go_must (refine (RSeal_any _ _ _ _ n _ (Bs.of_own HO1.out).drew (by omega) (by have := HB.out; omega)).mono ?_; rintro e wx2 ⟨Ax2, cx2, rfl, hox2, hbx2⟩; have HO2 := Lib.hid hox2; have HB2 := Lib.hid hbx2; clear hox2 hbx2; have e2 := str_bytes (Bs.of_own HO2.out); have e3 := str_bytes ((H.out.below HB1.out).drew.below HB2.out)))
  all_goals
    go_wp2
    go_ret2
    exact ⟨A1, c1, rfl, own_below (w := w1.drew) HO1.out.drew HB2.out, HB1.out.drew.trans (HB2.out.mono HB1.out.size)⟩
theorem ROpen_bad (A : Option Addr) (n c : Nat) (l : List UInt8) (k : Nat) (w : World) (h : Bs w A n c l) (hk : n = k + 4) (hs : ¬ sealB (l.take k) = l) (hb : n ≤ 140737488355328) :
    Calls Tryz.prog 132 #[.slice A n c] w fun e w' => e = .returned (.tuple #[.slice none 0 0, .int .i64 31]) ∧ Below w.heap.size w w' := by
  obtain rfl : k = n - 4 := by omega
  have h4 : 4 ≤ n := by omega
  clear hk
  have hi := h.i64
  have H := Lib.hid h
  have HB := Lib.hid hb
  have hnc : n ≤ c := h.2.1
  have hcm : c ≤ 9223372036854775807 := by have := h.2.2.1; unfold maxLen at this; omega
  have HT := Lib.hid (h.take (k := n - 4) (by omega) c (by omega) h.2.2.1)
  have HTA := Lib.hid (HT.out.alloc (.cells #[] 5))
  have ho := Lib.hid (own_lit0 w 5)
  have HS := Lib.hid hs
  clear h hb hs
  go_enter Tryz.func132, Tryz.ntmps132
  go_wp2_with (at_builtin; go_must (refine wpList_append_rd rfl _ _ _ 5 rfl (.int .u8 0) 1 1 Tryz.underlying51 info_u8 rfl (by decide) ho.out rfl HTA.out rfl (bytes_oneCell _) ?_ ?c1 ?c2 ?c3; intro A1 c1 w1 ho1 hg1))
  case c1 => have := HB.out; omega
  case c2 => have := HB.out; unfold maxLen; omega
  case c3 => simp
  simp only [Nat.zero_add, List.nil_append] at ho1 hg1 ⊢
  have HO1 := Lib.hid ho1
  have HB1 := Lib.hid (hg1.below ((Below.refl _ _).alloc (Nat.le_refl _) _) ho.out (Nat.le_refl _))
  clear ho1 hg1
  have e1 := str_bytes (H.out.below HB1.out).drew
  have hq : (sealB (l.take (n - 4)) == l) = false := by rw [beq_eq_false_iff_ne]; exact HS.out
  go_region_with (go_at_call 109; go_must (refine (RSeal_any _ _ _ _ n _ (Bs.of_own HO1.out).drew (by omega) (by have := HB.out; omega)).mono ?_; rintro e wx2 ⟨Ax2, cx2, rfl, hox2, hbx2⟩; have HO2 := Lib.hid hox2; have HB2 := Lib.hid hbx2; clear hox2 hbx2; have e2 := str_bytes (Bs.of_own HO2.out); have e3 := str_bytes ((H.out.below HB1.out).drew.below HB2.out)))
  all_goals
    go_wp2
    go_ret2
    exact ⟨rfl, HB1.out.drew.trans (HB2.out.mono HB1.out.size)⟩
end Go.Proofs.YtaldjmhikebecaaGreat
