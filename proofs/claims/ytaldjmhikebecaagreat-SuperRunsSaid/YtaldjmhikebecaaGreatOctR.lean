/- Layer 1's reference: what the calls come to. -/
import Derived.Test.YtaldjmhikebecaaGreatOct
namespace Go.Proofs.YtaldjmhikebecaaGreat
open Go Go.RowKit
set_option maxRecDepth 100000

theorem Rfits_yes (v n : Nat) (w : World) (h1 : 1 ≤ n) (h2 : n ≤ 8) (h64 : v < 18446744073709551616) (hv : v < 256 ^ n) : Calls Tryz.prog 106 #[.int .u64 v, .int .i64 n] w fun e w' => e = .returned (.bool true) ∧ w = w' := by
  have H64 := Lib.hid h64
  have HV := Lib.hid hv
  clear hv h64
  go_enter Tryz.func106, Tryz.ntmps106
  go_wp2
  go_loop [0, 5] (fun u i => ∃ k : Nat, k ≤ n ∧ i = .int .i64 k ∧ u = .int .u64 (v / 256 ^ k : Nat)) (fun _ i => n - (intOf i).toNat)
  case atStart => exact ⟨0, Nat.zero_le _, rfl, by simp⟩
  case round =>
    obtain ⟨k, hk, rfl, rfl⟩ := hrel
    have hds := Lib.hid (div_step v k)
    have hxb : v / 256 ^ k < 18446744073709551616 := Nat.lt_of_le_of_lt (Nat.div_le_self _ _) H64.out
    have hend : Hid (k = n → v / 256 ^ k = 0) := Lib.hid (fun e => by subst e; exact Nat.div_eq_of_lt HV.out)
    generalize v / 256 ^ k = x at *
    by_cases hlt : k < n
    · go_wp2
      go_round
      case rel => exact ⟨k + 1, by omega, by go_num, by rw [← hds.out]; go_num⟩
      case measure => simp [intOf]; omega
    · obtain rfl : k = n := by omega
      obtain rfl : x = 0 := hend.out rfl
      go_wp2
      go_ret
      exact ⟨by simp, rfl⟩

theorem RPut_ok (A : Option Addr) (m c : Nat) (l : List UInt8) (v n : Nat) (q : Int) (hq : q = n) (w : World) (h : Bs w A m c l) (h1 : 1 ≤ n) (h2 : n ≤ 8)
    (h64 : v < 18446744073709551616) (hfit : v < 256 ^ n) (hm : m + n ≤ 140737488355328) :
    Calls Tryz.prog 107 #[.slice A m c, .int .u64 v, .int .i64 q] w (RetBE w (m + n) (l ++ leN v n) 0) := by
  subst hq
  have H := Lib.hid h
  have HM := Lib.hid hm
  have H64 := Lib.hid h64
  have HF := Lib.hid hfit
  have hr := h.alloc (.cells #[] 5)
  have HR := Lib.hid hr
  have ho := Lib.hid (own_lit0 w 5)
  clear h hm h64 hfit hr
  go_enter Tryz.func107, Tryz.ntmps107
  go_wp2_with (first | (go_at_call 106; go_must (refine (Rfits_yes _ _ _ h1 h2 H64.out HF.out).mono ?_; rintro e w' ⟨rfl, rfl⟩)) | (at_builtin; go_must (refine wpList_append_rd rfl _ _ _ 5 rfl (.int .u8 0) 1 1 Tryz.underlying51 info_u8 rfl (by decide) ho.out rfl HR.out rfl (bytes_oneCell l) ?_ ?c1 ?c2 ?c3; intro A1 c1 w1 ho1 hg1)))
  case c1 => have := HM.out; omega
  case c2 => have := HM.out; unfold maxLen; omega
  case c3 => simp
  simp only [Nat.zero_add, List.nil_append] at ho1 hg1 ⊢
  have HO := Lib.hid ho1
  have HB := Lib.hid (hg1.below ((Below.refl _ _).alloc (Nat.le_refl _) _) ho.out (Nat.le_refl _))
  clear ho1 hg1
  go_loopw [1, 8, 9] (fun x u i wr => ∃ (k : Nat) (A' : Option Addr) (c' : Nat), k ≤ n ∧ i = .int .i64 k ∧ x = .int .u64 (v / 256 ^ k : Nat) ∧ u = .slice A' (m + k) c' ∧ Hid (wr.ownsRow w.heap.size 5 1 (.slice A' (m + k) c') (m + k) (bytes (l ++ leN v k))) ∧ Hid (Below w.heap.size w wr)) (fun _ _ i _ => n - (intOf i).toNat)
  case atStart => exact ⟨0, A1, c1, Nat.zero_le _, rfl, by simp, rfl, by simpa [leN, Hid] using HO.out, HB⟩
  case round =>
    obtain ⟨k, A', c', hk, rfl, rfl, rfl, hown, hbel⟩ := hrel
    have hxb : v / 256 ^ k < 18446744073709551616 := Nat.lt_of_le_of_lt (Nat.div_le_self _ _) H64.out
    have hds := Lib.hid (div_step v k)
    have hby := Lib.hid (byte_mod v k)
    generalize hxe : v / 256 ^ k = x at *
    have HXE := Lib.hid hxe
    clear hxe
    by_cases hlt : k < n
    · go_wp2_with (at_builtin; go_must (refine wpList_append_rd rfl _ _ _ 5 rfl (.int .u8 0) 1 1 Tryz.underlying51 info_u8 rfl (by decide) (hown.out.alloc _) rfl (cell_new1 _ _ _) rfl (by simp [Value.oneCell']) ?_ ?c1 ?c2 ?c3; intro A1 c1 w1 ho1 hg1))
      case c1 => have := HM.out; omega
      case c2 => have := HM.out; unfold maxLen; omega
      case c3 => have := hbel.out.size; simp; omega
      refine ⟨⟨k + 1, A1, c1, by omega, by go_num, by rw [← hds.out]; go_num, rfl, ?_, Lib.hid (hg1.below (hbel.out.alloc hbel.out.size _) (hown.out.alloc _) (Nat.le_refl _))⟩, by simp [intOf]; omega⟩
      rw [leN, ← List.append_assoc, bytes_append (l ++ leN v k), show bytes [UInt8.ofNat (v / 256 ^ k)] = [.int .u8 ((x : Int) % 256)] from by show [byt _] = _; rw [byt, HXE.out, hby.out]]
      exact ho1
    · obtain rfl : k = n := by omega
      go_wp2_with fail
      go_ret2
      exact ⟨A', c', rfl, hown.out, hbel.out⟩

theorem RPutText_ok (A : Option Addr) (m c : Nat) (l : List UInt8) (A2 : Option Addr) (m2 c2 : Nat) (l2 : List UInt8) (w : World) (h : Bs w A m c l) (h2 : Bs w A2 m2 c2 l2) (hb : m2 ≤ 16777216) (hm : m + 4 + m2 ≤ 140737488355328) :
    Calls Tryz.prog 108 #[.slice A m c, .slice A2 m2 c2] w (RetBE w (m + 4 + m2) (l ++ leN m2 4 ++ l2) 0) := by
  have H := Lib.hid h
  have H2 := Lib.hid h2
  have HM := Lib.hid hm
  clear h h2 hm
  go_enter Tryz.func108, Tryz.ntmps108
  go_wp2_with (first | (go_at_call 107; go_must (refine (RPut_ok _ _ _ _ _ 4 _ rfl _ H.out (by omega) (by omega) (by omega) (by omega) (by have := HM.out; omega)).mono ?_; rintro e wx2 ⟨Ax2, cx2, rfl, hox2, hbx2⟩; have HO2 := Lib.hid hox2; have HB2 := Lib.hid hbx2; clear hox2 hbx2)) | (at_builtin; go_must (refine wpList_append_rd rfl _ _ _ 5 rfl (.int .u8 0) 1 1 Tryz.underlying51 info_u8 rfl (by decide) HO2.out rfl (H2.out.below HB2.out) rfl (bytes_oneCell l2) ?_ ?c1 ?c2 ?c3; intro A1 c1 w1 ho1 hg1)))
  case c1 => have := HM.out; omega
  case c2 => have := HM.out; unfold maxLen; omega
  case c3 => exact HB2.out.size
  go_ret2
  exact ⟨A1, c1, rfl, by rw [bytes_append (l ++ leN m2 4)]; exact ho1, hg1.below HB2.out HO2.out (Nat.le_refl _)⟩

theorem RPutAll_ok (A : Option Addr) (m c : Nat) (l : List UInt8) (n : Nat) (q : Int) (hq : q = n) (A2 : Option Addr) (k2 c2 : Nat) (vs : List Nat) (w : World) (h : Bs w A m c l) (h1 : 1 ≤ n) (h2 : n ≤ 8)
    (hr : Rd w 1 A2 k2 c2 (u64s vs)) (h64 : ∀ v ∈ vs, v < 18446744073709551616) (hfit : ∀ v ∈ vs, v < 256 ^ n) (hm : m + k2 * n ≤ 140737488355328) :
    Calls Tryz.prog 79 #[.slice A m c, .int .i64 q, .slice A2 k2 c2] w (RetBE w (m + k2 * n) (l ++ leAll n vs) 0) := by
  subst hq
  have HR2 := Lib.hid hr
  have H := Lib.hid h
  have HM := Lib.hid hm
  have H64 := Lib.hid h64
  have HF := Lib.hid hfit
  have hk2 : Hid (vs.length = k2) := Lib.hid (by have := hr.1; simpa [u64s] using this)
  have hi := hr.i64
  have HR := Lib.hid (h.alloc (.cells #[] 5))
  have ho := Lib.hid (own_lit0 w 5)
  clear hr h hm h64 hfit
  go_enter Tryz.func79, Tryz.ntmps79
  go_wp2_with (at_builtin; go_must (refine wpList_append_rd rfl _ _ _ 5 rfl (.int .u8 0) 1 1 Tryz.underlying51 info_u8 rfl (by decide) ho.out rfl HR.out rfl (bytes_oneCell l) ?_ ?c1 ?c2 ?c3; intro A1 c1 w1 ho1 hg1))
  case c1 => have := HM.out; omega
  case c2 => have := HM.out; unfold maxLen; omega
  case c3 => simp
  simp only [Nat.zero_add, List.nil_append] at ho1 hg1 ⊢
  have HO := Lib.hid ho1
  have HB := Lib.hid (hg1.below ((Below.refl _ _).alloc (Nat.le_refl _) _) ho.out (Nat.le_refl _))
  clear ho1 hg1
  go_loopw [8, 9] (fun u i wr => ∃ (k : Nat) (A' : Option Addr) (c' : Nat), k ≤ k2 ∧ i = .int .i64 k ∧ u = .slice A' (m + k * n) c' ∧ Hid (wr.ownsRow w.heap.size 5 1 (.slice A' (m + k * n) c') (m + k * n) (bytes (l ++ leAll n (vs.take k)))) ∧ Hid (Below w.heap.size w wr)) (fun _ i _ => k2 - (intOf i).toNat)
  case atStart => exact ⟨0, A1, c1, Nat.zero_le _, rfl, by simp, Lib.hid (by simpa [leAll] using HO.out), HB⟩
  case round =>
    obtain ⟨k, A', c', hk, rfl, rfl, hown, hbel⟩ := hrel
    by_cases hlt : k < k2
    · obtain ⟨ad, rfl, hc⟩ := (HR2.out.below hbel.out).at_ hlt
      have hkl : k < vs.length := by rw [hk2.out]; exact hlt
      have hcell : wr.cell? (ad.add k) = some (.int .u64 (vs[k] : Nat)) := by rw [hc]; simp [u64s, u64v]
      clear hc
      have hmem := List.getElem_mem hkl
      have hv := Lib.hid (H64.out _ hmem)
      have hf := Lib.hid (HF.out _ hmem)
      have hsz : Hid (m + k * n + n ≤ 140737488355328) := Lib.hid (by
        have := HM.out
        have h3 : (k + 1) * n ≤ k2 * n := Nat.mul_le_mul (by omega) (Nat.le_refl _)
        rw [Nat.add_mul] at h3
        omega)
      clear hmem
      generalize hx : vs[k] = x at hcell hv hf
      have hx := Lib.hid hx
      go_wp2_with (go_at_call 106; go_must (refine (Rfits_yes _ _ _ h1 h2 hv.out hf.out).mono ?_; rintro e w' ⟨rfl, rfl⟩))
      obtain ⟨wo, rfl⟩ : ∃ wo : World, wo = wr := ⟨_, rfl⟩
      go_loopw [8, 10, 11] (fun u y i wr => ∃ (j : Nat) (A'' : Option Addr) (c'' : Nat), j ≤ n ∧ i = .int .i64 j ∧ y = .int .u64 (x / 256 ^ j : Nat) ∧ u = .slice A'' (m + k * n + j) c'' ∧ Hid (wr.ownsRow w.heap.size 5 1 (.slice A'' (m + k * n + j) c'') (m + k * n + j) (bytes (l ++ leAll n (vs.take k) ++ leN x j))) ∧ Hid (Below w.heap.size w wr)) (fun _ _ i _ => n - (intOf i).toNat)
      case atStart => exact ⟨0, A', c', Nat.zero_le _, rfl, by simp, rfl, by simpa [leN, Hid] using hown.out, hbel⟩
      case round =>
        obtain ⟨j, A'', c'', hj, rfl, rfl, rfl, hown2, hbel2⟩ := hrel
        have hxb : x / 256 ^ j < 18446744073709551616 := Nat.lt_of_le_of_lt (Nat.div_le_self _ _) hv.out
        have hds := Lib.hid (div_step x j)
        have hby := Lib.hid (byte_mod x j)
        generalize hxe : x / 256 ^ j = y at *
        have HXE := Lib.hid hxe
        clear hxe
        by_cases hlt2 : j < n
        · go_wp2_with (at_builtin; go_must (refine wpList_append_rd rfl _ _ _ 5 rfl (.int .u8 0) 1 1 Tryz.underlying51 info_u8 rfl (by decide) (hown2.out.alloc _) rfl (cell_new1 _ _ _) rfl (by simp [Value.oneCell']) ?_ ?c1 ?c2 ?c3; intro A1 c1 w1 ho1 hg1))
          case c1 => have := hsz.out; omega
          case c2 => have := hsz.out; unfold maxLen; omega
          case c3 => have := hbel2.out.size; simp; omega
          refine ⟨⟨j + 1, A1, c1, by omega, by go_num, by rw [← hds.out]; go_num, rfl, ?_, Lib.hid (hg1.below (hbel2.out.alloc hbel2.out.size _) (hown2.out.alloc _) (Nat.le_refl _))⟩, by simp [intOf]; omega⟩
          rw [leN, ← List.append_assoc, bytes_append (_ ++ leN x j), show bytes [UInt8.ofNat (x / 256 ^ j)] = [.int .u8 ((y : Int) % 256)] from by show [byt _] = _; rw [byt, HXE.out, hby.out]]
          exact ho1
        · obtain rfl : j = n := by omega
          go_wp2_with fail
          have e : m + (k + 1) * j = m + k * j + j := by rw [Nat.add_mul]; omega
          refine ⟨⟨k + 1, A'', c'', by omega, by go_num, by rw [e], ?_, hbel2⟩, by simp [intOf]; omega⟩
          rw [e, leAll_take j vs k hkl, hx.out, ← List.append_assoc]
          exact hown2
    · obtain rfl : k = k2 := by omega
      go_wp2_with fail
      go_ret2
      exact ⟨A', c', rfl, by have := hown.out; rwa [List.take_of_length_le (by have := hk2.out; omega)] at this, hbel.out⟩

theorem RGet_ok (A : Option Addr) (m c : Nat) (l : List UInt8) (p q : Int) (at_ n : Nat) (w : World) (h : Bs w A m c l) (hp : p = at_) (hq : q = n) (h1 : 1 ≤ n) (h2 : n ≤ 8) (h3 : at_ + n ≤ m) :
    Calls Tryz.prog 131 #[.slice A m c, .int .i64 p, .int .i64 q] w fun e w' => e = .returned (.tuple #[.int .u64 (unle ((l.drop at_).take n) : Nat), .int .i64 (p + q), .int .i64 0]) ∧ w = w' := by
  subst hp hq
  have hi := h.i64
  have hmc : m ≤ c := h.2.1
  have hcm : c ≤ 9223372036854775807 := by have := h.2.2.1; unfold maxLen at this; omega
  obtain ⟨ad, rfl, hcell⟩ := h.2.2.2 (by omega)
  have HC := Lib.hid hcell
  have HL := Lib.hid h.len
  clear hcell h
  have b0 : decide (8 < (n : Int)) = false := by simp; omega
  have b1 : decide ((at_ : Int) < 0) = false := by simp
  have b2 : decide (m < at_) = false := by simp; omega
  have b3 : decide ((m : Int) - at_ < n) = false := by simp; omega
  have b4 : decide ((n : Int) < 1) = false := by simp; omega
  go_enter Tryz.func131, Tryz.ntmps131
  go_wp2
  go_loop [9, 10] (fun v i => ∃ j : Nat, j ≤ n ∧ i = .int .i64 ((j : Int) - 1) ∧ v = .int .u64 (unle ((l.drop (at_ + j)).take (n - j)) : Nat)) (fun _ i => (intOf i + 1).toNat)
  case atStart => exact ⟨n, Nat.le_refl _, rfl, by simp [unle]⟩
  case round =>
    obtain ⟨j, hj, rfl, rfl⟩ := hrel
    by_cases hlt : 0 < j
    · have hl := HL.out
      have hcell : w.cell? (ad.add (at_ + (j - 1))) = some (byt (l[at_ + (j - 1)]'(by omega))) :=
        HC.out _ _ (by simp only [bytes, List.getElem?_map]; rw [List.getElem?_eq_getElem (by omega)]; rfl)
      unfold byt at hcell
      have hub : unle ((l.drop (at_ + j)).take (n - j)) * 256 + 255 < 18446744073709551616 := by
        have hb := unle_lt ((l.drop (at_ + j)).take (n - j))
        have hlen : ((l.drop (at_ + j)).take (n - j)).length = n - j := by simp; omega
        rw [hlen] at hb
        have : 256 ^ (n - j) * 256 ≤ 256 ^ 8 := by rw [← Nat.pow_succ]; exact Nat.pow_le_pow_right (by omega) (by omega)
        have h8 : (256 : Nat) ^ 8 = 18446744073709551616 := by decide
        omega
      have hcb := (l[at_ + (j - 1)]'(by omega)).toNat_lt
      have hstep : Hid (unle ((l.drop (at_ + (j - 1))).take (n - (j - 1))) = (l[at_ + (j - 1)]'(by omega)).toNat + 256 * unle ((l.drop (at_ + j)).take (n - j))) := Lib.hid (by
        rw [List.drop_eq_getElem_cons (by omega), show n - (j - 1) = (n - j) + 1 from by omega, List.take_succ_cons, unle]
        simp only [show at_ + (j - 1) + 1 = at_ + j from by omega])
      generalize hu : unle ((l.drop (at_ + j)).take (n - j)) = u at hub hstep ⊢
      generalize hx : (l[at_ + (j - 1)]'(by omega)).toNat = x at hcell hcb hstep
      clear hu hx hl
      go_wp2
      refine ⟨⟨j - 1, by omega, ?_, ?_⟩, by simp [intOf]; omega⟩
      · congr 1; omega
      · rw [hstep.out]; congr 1; push_cast; omega
    · obtain rfl : j = 0 := by omega
      go_wp2
      go_ret3
      exact ⟨rfl, rfl⟩

theorem RGetAll_ok (A : Option Addr) (m c : Nat) (l : List UInt8) (p q r : Int) (at_ n cnt : Nat) (w : World) (h : Bs w A m c l) (hp : p = at_) (hq : q = n) (hr : r = cnt) (h1 : 1 ≤ n) (h2 : n ≤ 8) (h3 : at_ + cnt * n ≤ m) (h4 : cnt ≤ 16777216) :
    Calls Tryz.prog 111 #[.slice A m c, .int .i64 p, .int .i64 q, .int .i64 r] w (RetGA w (getAll l at_ n cnt) cnt ((at_ : Int) + cnt * n)) := by
  subst hp hq hr
  have hi := h.i64
  have H := Lib.hid h
  clear h
  have b0 : decide (8 < (n : Int)) = false := by simp; omega
  have b1 : decide ((at_ : Int) < 0) = false := by simp
  have b2 : decide (m < at_) = false := by simp; omega
  have b4 : decide ((n : Int) < 1) = false := by simp; omega
  have b5 : decide ((cnt : Int) < 0) = false := by simp
  have b6 : decide (16777216 < (cnt : Int)) = false := by simp; omega
  go_enter Tryz.func111, Tryz.ntmps111
  go_wp2_with fail
  go_loopw [1, 11, 12] (fun q u i wr => ∃ (k : Nat) (A' : Option Addr) (c' : Nat), k ≤ cnt ∧ i = .int .i64 k ∧ q = .int .i64 ((at_ : Int) + k * n) ∧ u = .slice A' k c' ∧ Hid (wr.ownsRow w.heap.size 27 1 (.slice A' k c') k (u64s (getAll l at_ n k))) ∧ Hid (Below w.heap.size w wr)) (fun _ _ i _ => cnt - (intOf i).toNat)
  case atStart => exact ⟨0, none, 0, Nat.zero_le _, rfl, by simp, rfl, World.ownsRow_nil _ _ _ _, Below.refl _ _⟩
  case round =>
    obtain ⟨k, A', c', hk, rfl, rfl, rfl, hown, hbel⟩ := hrel
    by_cases hlt : k < cnt
    · have hkn : at_ + k * n + n ≤ m := by
        have : (k + 1) * n ≤ cnt * n := Nat.mul_le_mul (by omega) (Nat.le_refl _)
        rw [Nat.add_mul] at this
        omega
      go_wp2_with (first | (go_at_call 131; go_must (refine (RGet_ok _ _ _ l _ _ (at_ + k * n) n _ (H.out.below hbel.out) (by simp) rfl h1 h2 hkn).mono ?_; rintro e w' ⟨rfl, rfl⟩)) | (at_builtin; go_must (refine wpList_append_rd rfl _ _ _ 27 rfl (.int .u64 0) 1 8 Tryz.underlying141 info_u64 rfl (by decide) (hown.out.alloc _) rfl (cell_new1 _ _ _) rfl (by simp [Value.oneCell']) ?_ ?c1 ?c2 ?c3; intro A1 c1 w1 ho1 hg1)))
      case c1 => omega
      case c2 => unfold maxLen; omega
      case c3 => have := hbel.out.size; simp; omega
      refine ⟨⟨k + 1, A1, c1, by omega, by go_num, ?_, rfl, Lib.hid (by rw [getAll]; simpa [u64s, u64v] using ho1), Lib.hid (hg1.below (hbel.out.alloc hbel.out.size _) (hown.out.alloc _) (Nat.le_refl _))⟩, by simp [intOf]; omega⟩
      congr 1
      push_cast
      rw [Int.add_mul]
      omega
    · obtain rfl : k = cnt := by omega
      go_wp2_with fail
      go_ret3
      exact ⟨A', c', rfl, hown.out, hbel.out⟩
end Go.Proofs.YtaldjmhikebecaaGreat
