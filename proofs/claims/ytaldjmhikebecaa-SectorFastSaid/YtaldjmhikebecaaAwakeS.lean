/- Layer 8 (sector): the laws' own wake-up call: two writes, of which a crash keeps one. -/
import Derived.Test.YtaldjmhikebecaaCrash
import Derived.Test.YtaldjmhikebecaaWrite
import Derived.Test.YtaldjmhikebecaaNew
import Derived.Lib.SlBytesConst
import Derived.Lib.SmallJoins
namespace Go.Proofs.Ytaldjmhikebecaa
open Go Go.RowKit
set_option maxRecDepth 100000
set_option linter.unusedVariables false
attribute [local go_sem] Oper.semAt_some eq_nil_bytes
def sk0 : Dsk := Dsk.new 3 2
def sk1 : Dsk := sk0.less.puts 0 [97, 98] 1
def sk2 : Dsk := sk1.less.puts 2 [99, 100] 1
def sk3 : Dsk := sk2.crash [false, true] (-1) 0
theorem sk3_read : sk3.read 0 3 = some [0, 0, 0, 0, 99, 100] := by decide +kernel
theorem cells_mark (w : World) (cs : List Value) (e : TypeId) (n : Nat) (fr : Nat × Nat) (h : cs.length = n) (hm : n ≤ maxLen) : Rd (w.alloc (.cells cs.toArray e fr)) 1 (some ⟨w.heap.size, 0, none⟩) n n cs := by
  refine ⟨by omega, Nat.le_refl _, hm, fun _ => ⟨_, rfl, fun j x hx => ?_⟩⟩
  have : (⟨w.heap.size, 0, none⟩ : Addr).add j = ⟨w.heap.size, j, none⟩ := by unfold Addr.add; split <;> simp_all
  rw [this, World.cell?_alloc_mark]
  simpa using hx
set_option maxHeartbeats 1000000 in
theorem awakeS_true (w : World) : Calls Try.prog 19 #[] w fun e w' => e = .returned (.bool true) ∧ Below w.heap.size w w' := by
  have HNEW := Lib.hid (New_ok 3 2 w (by omega) (by omega) (by omega) (by omega))
  have HW1 := Lib.hid (fun (W : World) (d fb lb bb : Nat) (h : OnDisk (fun b => b = d ∨ b = fb) W d fb lb bb 0 (Dsk.new 3 2)) => by
    have hB : Bs (W.alloc (.cells #[.int .u8 97, .int .u8 98] 5 (2, 3))) (some ⟨W.heap.size, 0, none⟩) 2 2 [97, 98] := cells_mark W (bytes [97, 98]) 5 2 (2, 3) rfl (by unfold maxLen; omega)
    have := DWrite_ok (h.alloc _) _ 2 2 [97, 98] hB (fun _ ad e => by cases e; have := h.lts.1; simp; omega) 0 1 rfl (by decide) (by decide) (by omega)
    exact this)
  have HW2 := Lib.hid (fun (W : World) (d fb lb bb : Nat) (h : OnDisk (fun b => b = d ∨ b = fb) W d fb lb bb 1 sk1) => by
    have hB : Bs (W.alloc (.cells #[.int .u8 99, .int .u8 100] 5 (2, 3))) (some ⟨W.heap.size, 0, none⟩) 2 2 [99, 100] := cells_mark W (bytes [99, 100]) 5 2 (2, 3) rfl (by unfold maxLen; omega)
    have := DWrite_ok (h.alloc _) _ 2 2 [99, 100] hB (fun _ ad e => by cases e; have := h.lts.1; simp; omega) 2 1 rfl (by decide) (by decide) (by omega)
    exact this)
  have HCR := Lib.hid (fun (W : World) (d fb lb bb : Nat) (h : OnDisk (fun b => b = d ∨ b = fb) W d fb lb bb 2 sk2) => by
    have hK : Rd (W.alloc (.cells #[.bool false, .bool true] 4)) 1 (some ⟨W.heap.size, 0, none⟩) 2 2 ([false, true].map Value.bool) := cells_new W ([false, true].map Value.bool) 4 2 rfl (by unfold maxLen; omega)
    exact Crash_ok (h.alloc _) _ 2 2 [false, true] (-1) 0 hK)
  have HRD := Lib.hid (fun (W : World) (d fb lb bb : Nat) (h : OnDisk (fun b => b = d ∨ b = fb) W d fb lb bb 2 sk3) => by
    have := Read_ok h 0 3 (by decide)
    unfold RetRead at this
    rw [sk3_read] at this
    exact this)
  have tok1 : True := trivial
  go_enter Try.func19, Try.ntmps19
  go_wp2_with (first
    | (go_at_call 37; go_must (refine HNEW.out.mono ?_; rintro e w1 ⟨d, fb, lb, bb, rfl, hd, hb4, hb⟩; have HD1 := Lib.hid hd; have HG := Lib.hid hb4; have HB1 := Lib.hid hb; have hcv1 := Lib.run_convert_bytes_const (P := Try.prog) w1 26 5 #[.int .u8 97, .int .u8 98] 2 2 Try.underlying26 Try.underlying5; clear hd hb4 hb))
    | (go_at_call 27; have _t := tok1; clear tok1; go_must (clear _t; refine (HW1.out _ d fb lb bb HD1.out).mono ?_; rintro e w2 ⟨rfl, hd, ht⟩; have HD2 := Lib.hid hd; have HB2 := Lib.hid (Touch.below (HB1.out.alloc HB1.out.size _) ht (Nat.le_refl _) (fun i hi => by have := HG.out; rcases hi with rfl | rfl <;> omega)); clear hcv1; have hcv2 := Lib.run_convert_bytes_const (P := Try.prog) w2 26 5 #[.int .u8 99, .int .u8 100] 2 2 Try.underlying26 Try.underlying5; clear hd ht))
    | (go_at_call 27; go_must (refine (HW2.out _ d fb lb bb HD2.out).mono ?_; rintro e w3 ⟨rfl, hd, ht⟩; have HD3 := Lib.hid hd; have HB3 := Lib.hid (Touch.below (HB2.out.alloc HB2.out.size _) ht (Nat.le_refl _) (fun i hi => by have := HG.out; rcases hi with rfl | rfl <;> omega)); clear hd ht))
    | (go_at_call 29; go_must (refine (HCR.out _ d fb lb bb HD3.out).mono ?_; rintro e w4 ⟨rfl, hd, ht⟩; have HD4 := Lib.hid hd; have HB4 := Lib.hid (Touch.below (HB3.out.alloc HB3.out.size _) ht (Nat.le_refl _) (fun i hi => by have := HG.out; rcases hi with rfl | rfl | rfl | rfl <;> omega)); clear hd ht))
    | (go_at_call 22; go_must (refine (HRD.out _ d fb lb bb HD4.out).mono ?_; rintro e w5 ⟨A5, c5, rfl, ho, hb⟩; have hstr := run_string_bytes (P := Try.prog) 26 9 5 Try.underlying26 Try.underlying9 Try.underlying5 (Bs.of_own ho); have HB5 := Lib.hid (HB4.out.trans (hb.mono HB4.out.size)); clear ho hb)))
  go_ret
  exact ⟨by simp [strB_toList], HB5.out⟩
end Go.Proofs.Ytaldjmhikebecaa
