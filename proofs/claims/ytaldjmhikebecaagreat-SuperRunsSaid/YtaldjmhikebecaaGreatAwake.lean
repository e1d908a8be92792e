/- Layer 9 (super): the laws' own wake-up call: two superblocks saved, the later one loaded. -/
import Derived.Test.YtaldjmhikebecaaGreatLoad
import Derived.Test.YtaldjmhikebecaaGreatNew
import Derived.Test.YtaldjmhikebecaaGreatSpoil
namespace Go.Proofs.YtaldjmhikebecaaGreat
open Go Go.RowKit
set_option maxRecDepth 100000
set_option linter.unusedVariables false
attribute [local go_sem] Oper.semAt_some
def sup1 : Sup := ⟨1, 0, 3, 0, 0, 0, 0, 0, 0⟩
def sup2 : Sup := ⟨2, 0, 4, 0, 0, 0, 0, 0, 0⟩
def dsk0 : Dsk := Dsk.new 2 80
def dsk1 : Dsk := dsk0.less.puts 1 (padB sup1 80) 1
def dsk2 : Dsk := dsk1.less.puts 0 (padB sup2 80) 1
theorem sup1_ok : sup1.ok ∧ sup1.fit := ⟨by decide, by constructor <;> decide⟩
theorem sup2_ok : sup2.ok ∧ sup2.fit := ⟨by decide, by constructor <;> decide⟩
theorem padB_len (s : Sup) : (padB s 80).length = 80 := by simp [padB, supB_length]
theorem slot_0 : dsk2.slot 0 = some sup2 := by
  have h : dsk2.read 0 1 = some (padB sup2 80) := by
    have : (padB sup2 80).take 80 = padB sup2 80 := List.take_of_length_le (by rw [padB_len]; omega)
    simp [dsk2, dsk1, dsk0, Dsk.puts, Dsk.read, Dsk.sec, Dsk.put, Dsk.less, Dsk.new, this]
  rw [Dsk.slot, h]
  have hd : decode (padB sup2 80) = (sup2, 0) := decode_back sup2 sup2_ok.2 sup2_ok.1 (List.replicate ((80 - 72 % 80) % 80) 0)
  simp only [hd]
  rfl
theorem slot_1 : dsk2.slot 1 = some sup1 := by
  have h : dsk2.read 1 1 = some (padB sup1 80) := by
    have : (padB sup1 80).take 80 = padB sup1 80 := List.take_of_length_le (by rw [padB_len]; omega)
    simp [dsk2, dsk1, dsk0, Dsk.puts, Dsk.read, Dsk.sec, Dsk.put, Dsk.less, Dsk.new, this]
  rw [Dsk.slot, h]
  have hd : decode (padB sup1 80) = (sup1, 0) := decode_back sup1 sup1_ok.2 sup1_ok.1 (List.replicate ((80 - 72 % 80) % 80) 0)
  simp only [hd]
  rfl
theorem load_2 : dsk2.loadSt 2 = (sup2, 0) := by
  simp only [Dsk.loadSt, slot_0, slot_1, better]
  rfl
set_option maxHeartbeats 1000000 in
theorem awake_true (w : World) : Calls Tryz.prog 9 #[] w fun e w' => e = .returned (.bool true) ∧ Below w.heap.size w w' := by
  have HNEW := Lib.hid (New_ok 2 80 w (by omega) (by omega) (by omega) (by omega))
  have e1 := Lib.hid (show sup1.cells = #[.int .u64 1, .int .i64 0, .int .i64 3, .int .i64 0, .int .i64 0, .int .i64 0, .int .i64 0, .int .i64 0, .int .u32 0] from rfl)
  have e2 := Lib.hid (show sup2.cells = #[.int .u64 2, .int .i64 0, .int .i64 4, .int .i64 0, .int .i64 0, .int .i64 0, .int .i64 0, .int .i64 0, .int .u32 0] from rfl)
  have HS1 := Lib.hid (fun (W : World) (d fb lb bb : Nat) (h : OnDisk (fun b => b = d ∨ b = fb) W d fb lb bb 0 (Dsk.new 2 80)) => by
    have := Save_ok h sup1 sup1_ok.2 sup1_ok.1 (by decide) (by decide) (by decide) (by omega)
    rw [e1.out] at this
    exact this)
  have HS2 := Lib.hid (fun (W : World) (d fb lb bb : Nat) (h : OnDisk (fun b => b = d ∨ b = fb) W d fb lb bb 1 dsk1) => by
    have := Save_ok h sup2 sup2_ok.2 sup2_ok.1 (by decide) (by decide) (by decide) (by omega)
    rw [e2.out] at this
    exact this)
  have HL := Lib.hid (fun (W : World) (d fb lb bb : Nat) (h : OnDisk (fun b => b = d ∨ b = fb) W d fb lb bb 2 dsk2) => by
    have := Load_ok h (by decide) (by decide)
    rw [load_2] at this
    unfold RetS at this
    simp only [e2.out] at this
    exact this)
  have tok1 : True := trivial
  go_enter Tryz.func9, Tryz.ntmps9
  go_wp2_with (first
    | (go_at_call 11; go_must (refine HNEW.out.mono ?_; rintro e w1 ⟨d, fb, lb, bb, rfl, hd, hb4, hb⟩; have HD1 := Lib.hid hd; have HG := Lib.hid hb4; have HB1 := Lib.hid hb; clear hd hb4 hb))
    | (go_at_call 12; have _t := tok1; clear tok1; go_must (clear _t; refine (HS1.out _ d fb lb bb HD1.out).mono ?_; rintro e w2 ⟨rfl, hd, ht⟩; have HD2 := Lib.hid hd; have HB2 := Lib.hid (Touch.below HB1.out ht (Nat.le_refl _) (fun i hi => by have := HG.out; rcases hi with rfl | rfl <;> omega)); clear hd ht))
    | (go_at_call 12; go_must (refine (HS2.out _ d fb lb bb HD2.out).mono ?_; rintro e w3 ⟨rfl, hd, ht⟩; have HD3 := Lib.hid hd; have HB3 := Lib.hid (Touch.below HB2.out ht (Nat.le_refl _) (fun i hi => by have := HG.out; rcases hi with rfl | rfl <;> omega)); clear hd ht))
    | (go_at_call 15; go_must (refine (HL.out _ d fb lb bb HD3.out).mono ?_; rintro e w4 ⟨rfl, hb⟩; have HB4 := Lib.hid (HB3.out.trans (hb.mono HB3.out.size)); clear hb)))
  go_ret
  exact ⟨rfl, HB4.out.alloc HB4.out.size _⟩
end Go.Proofs.YtaldjmhikebecaaGreat
