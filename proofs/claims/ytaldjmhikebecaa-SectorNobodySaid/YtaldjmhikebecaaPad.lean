/- frame.Pad. -/
import Derived.Test.YtaldjmhikebecaaAppZ
import Derived.Test.YtaldjmhikebecaaSupE
namespace Go.Proofs.Ytaldjmhikebecaa
open Go Go.RowKit
set_option maxRecDepth 100000
set_option linter.unusedVariables false
attribute [local go_sem] Oper.semAt_some
theorem Pad_ok (A : Option Addr) (n c : Nat) (l : List UInt8) (w : World) (h : Bs w A n c l) (k : Nat) (hk1 : 1 ≤ k) (hk2 : k ≤ 16777216) (hn : n ≤ 70368744177664) :
    Calls Try.prog 79 #[.slice A n c, .int .i64 k] w (RetBE w (n + (k - n % k) % k) (l ++ List.replicate ((k - n % k) % k) 0) 0) := by
  have H := Lib.hid h
  have HC := Lib.hid (BClone_any A n c l w h (by omega))
  clear h
  obtain ⟨i, hi, hz, hs, hb⟩ := info_parts info_u8
  have hm : n % k < k := Nat.mod_lt _ (by omega)
  have hm2 : (k - n % k) % k < k := Nat.mod_lt _ (by omega)
  have e1 : wrap64 ((k : Int) - (n : Int) % (k : Int)) = ((k - n % k : Nat) : Int) := by
    rw [show ((k : Int) - (n : Int) % (k : Int)) = ((k - n % k : Nat) : Int) from by rw [Int.ofNat_sub (by omega)]; rfl]
    unfold wrap64; omega
  have e2 : (wrap64 ((k : Int) - (n : Int) % (k : Int))).tmod (k : Int) = (((k - n % k) % k : Nat) : Int) := by rw [e1]; rfl
  have E2 := Lib.hid e2
  clear e1 e2 hm
  have HM := Lib.hid hm2
  have HI := Lib.hid hi
  have HZ := Lib.hid hz
  have HS := Lib.hid hs
  have HBY := Lib.hid hb
  clear hi hz hs hb hm2
  generalize (k - n % k) % k = r at E2 HM ⊢
  go_enter Try.func79, Try.ntmps79
  go_wp2_with (first
    | (go_at_call 69; go_must (refine HC.out.mono ?_; rintro e wx ⟨Ax, cx, rfl, hox, hbx⟩; have HO := Lib.hid hox; have HB := Lib.hid hbx; clear hox hbx))
    | (at_builtin; go_must (refine wpList_append_zeros rfl _ _ _ _ 5 rfl i (.int .u8 0) .i64 .i64 Try.underlying26 Try.underlying3 HI.out HZ.out HS.out rfl HO.out rfl rfl r _ E2.out rfl (by have := HM.out; unfold maxLen; omega) (by rw [HBY.out]; have := HM.out; omega) HB.out.size ?_; intro A1 c1 w1 ho1 hg1)))
  have hz0 : bytes l ++ List.replicate r (.int .u8 0) = bytes (l ++ List.replicate r 0) := by simp [bytes, byt]
  rw [hz0] at ho1
  refine bodyPost_ret (results_tmp2 rfl _ _ _) rfl ⟨A1, c1, rfl, ho1, ?_⟩
  exact HB.out.grown hg1 HB.out.size (fun k hk => (own_base HO.out k hk).1)
end Go.Proofs.Ytaldjmhikebecaa
