/- SuperCrash: its walk, whole. -/
import Derived.Test.YtaldjmhikebecaaGreatCrW
import Derived.Test.YtaldjmhikebecaaGreatRow
import Derived.Test.YtaldjmhikebecaaGreatRowZ
namespace Go.Proofs.YtaldjmhikebecaaGreat
open Go Go.RowKit
set_option maxRecDepth 100000
set_option linter.unusedVariables false
attribute [local go_sem] Oper.semAt_some
set_option maxHeartbeats 2000000 in
theorem SuperCrash_badold (w : World) (old md : Sup) (hoo : ¬ old.ok) (KA : Option Addr) (mk kc : Nat) (torn cut : Int) (z : Nat) :
    Calls Tryz.prog 4 #[.agg old.cells, .agg md.cells, .agg #[.slice KA mk kc, .int .i64 torn, .int .i64 cut], .int .u8 (z : Int)] w (RetTrue w) := by
  have h3 : Below w.heap.size w (((w.alloc (.cells #[.int .u64 old.serial, .int .i64 old.epoch, .int .i64 old.view, .int .i64 old.normal, .int .i64 old.top, .int .i64 old.base, .int .i64 old.area, .int .i64 old.start, .int .u32 old.chain] 30)).alloc (.cells #[.int .u64 md.serial, .int .i64 md.epoch, .int .i64 md.view, .int .i64 md.normal, .int .i64 md.top, .int .i64 md.base, .int .i64 md.area, .int .i64 md.start, .int .u32 md.chain] 30)).alloc (.cells #[.slice KA mk kc, .int .i64 torn, .int .i64 cut] 33)) := bx (bx (bx (Below.refl _ w) _) _) _
  have z1 : (((w.alloc (.cells #[.int .u64 old.serial, .int .i64 old.epoch, .int .i64 old.view, .int .i64 old.normal, .int .i64 old.top, .int .i64 old.base, .int .i64 old.area, .int .i64 old.start, .int .u32 old.chain] 30)).alloc (.cells #[.int .u64 md.serial, .int .i64 md.epoch, .int .i64 md.view, .int .i64 md.normal, .int .i64 md.top, .int .i64 md.base, .int .i64 md.area, .int .i64 md.start, .int .u32 md.chain] 30)).alloc (.cells #[.slice KA mk kc, .int .i64 torn, .int .i64 cut] 33)).heap[w.heap.size]? = some (.cells #[.int .u64 old.serial, .int .i64 old.epoch, .int .i64 old.view, .int .i64 old.normal, .int .i64 old.top, .int .i64 old.base, .int .i64 old.area, .int .i64 old.start, .int .u32 old.chain] 30 (0, 0)) := blk_alloc (blk_alloc (blk_new w _) _) _
  have z2 : (((w.alloc (.cells #[.int .u64 old.serial, .int .i64 old.epoch, .int .i64 old.view, .int .i64 old.normal, .int .i64 old.top, .int .i64 old.base, .int .i64 old.area, .int .i64 old.start, .int .u32 old.chain] 30)).alloc (.cells #[.int .u64 md.serial, .int .i64 md.epoch, .int .i64 md.view, .int .i64 md.normal, .int .i64 md.top, .int .i64 md.base, .int .i64 md.area, .int .i64 md.start, .int .u32 md.chain] 30)).alloc (.cells #[.slice KA mk kc, .int .i64 torn, .int .i64 cut] 33)).heap[w.heap.size + 1]? = some (.cells #[.int .u64 md.serial, .int .i64 md.epoch, .int .i64 md.view, .int .i64 md.normal, .int .i64 md.top, .int .i64 md.base, .int .i64 md.area, .int .i64 md.start, .int .u32 md.chain] 30 (0, 0)) := by have := blk_alloc (blk_new (w.alloc (.cells #[.int .u64 old.serial, .int .i64 old.epoch, .int .i64 old.view, .int .i64 old.normal, .int .i64 old.top, .int .i64 old.base, .int .i64 old.area, .int .i64 old.start, .int .u32 old.chain] 30)) (.cells #[.int .u64 md.serial, .int .i64 md.epoch, .int .i64 md.view, .int .i64 md.normal, .int .i64 md.top, .int .i64 md.base, .int .i64 md.area, .int .i64 md.start, .int .u32 md.chain] 30)) (.cells #[.slice KA mk kc, .int .i64 torn, .int .i64 cut] 33); simpa only [World.size_alloc] using this
  have KM0 := Lib.hid (fun (W : World) (hb : W.heap[w.heap.size + 1]? = some (.cells #[.int .u64 md.serial, .int .i64 md.epoch, .int .i64 md.view, .int .i64 md.normal, .int .i64 md.top, .int .i64 md.base, .int .i64 md.area, .int .i64 md.start, .int .u32 md.chain] 30 (0, 0))) => (⟨blk_cell hb 0, blk_cell hb 1, blk_cell hb 2, blk_cell hb 3, blk_cell hb 4, blk_cell hb 5, blk_cell hb 6, blk_cell hb 7, blk_cell hb 8⟩ : W.cell? ⟨w.heap.size + 1, 0, none⟩ = some (.int .u64 md.serial) ∧ W.cell? ⟨w.heap.size + 1, 1, none⟩ = some (.int .i64 md.epoch) ∧ W.cell? ⟨w.heap.size + 1, 2, none⟩ = some (.int .i64 md.view) ∧ W.cell? ⟨w.heap.size + 1, 3, none⟩ = some (.int .i64 md.normal) ∧ W.cell? ⟨w.heap.size + 1, 4, none⟩ = some (.int .i64 md.top) ∧ W.cell? ⟨w.heap.size + 1, 5, none⟩ = some (.int .i64 md.base) ∧ W.cell? ⟨w.heap.size + 1, 6, none⟩ = some (.int .i64 md.area) ∧ W.cell? ⟨w.heap.size + 1, 7, none⟩ = some (.int .i64 md.start) ∧ W.cell? ⟨w.heap.size + 1, 8, none⟩ = some (.int .u32 md.chain)))
  have HCK1 := Lib.hid (fun (W : World) => (by have := RCheck_any old W; unfold RetI at this; rw [show chk old = 90 from if_neg hoo, show old.cells = #[.int .u64 old.serial, .int .i64 old.epoch, .int .i64 old.view, .int .i64 old.normal, .int .i64 old.top, .int .i64 old.base, .int .i64 old.area, .int .i64 old.start, .int .u32 old.chain] from rfl] at this; exact this))
  have HCK2 := Lib.hid (fun (W : World) => (by have := RCheck_any md W; unfold RetI at this; rw [show md.cells = #[.int .u64 md.serial, .int .i64 md.epoch, .int .i64 md.view, .int .i64 md.normal, .int .i64 md.top, .int .i64 md.base, .int .i64 md.area, .int .i64 md.start, .int .u32 md.chain] from rfl] at this; exact this))
  rw [show old.cells = #[.int .u64 old.serial, .int .i64 old.epoch, .int .i64 old.view, .int .i64 old.normal, .int .i64 old.top, .int .i64 old.base, .int .i64 old.area, .int .i64 old.start, .int .u32 old.chain] from rfl, show md.cells = #[.int .u64 md.serial, .int .i64 md.epoch, .int .i64 md.view, .int .i64 md.normal, .int .i64 md.top, .int .i64 md.base, .int .i64 md.area, .int .i64 md.start, .int .u32 md.chain] from rfl]
  have H3 := Lib.hid h3
  have Z1 := Lib.hid z1
  have Z2 := Lib.hid z2
  clear h3 z1 z2 hoo
  go_enter Tryz.func4, Tryz.ntmps4
  go_upto_region 1 with fail
  generalize (((w.alloc (.cells #[.int .u64 old.serial, .int .i64 old.epoch, .int .i64 old.view, .int .i64 old.normal, .int .i64 old.top, .int .i64 old.base, .int .i64 old.area, .int .i64 old.start, .int .u32 old.chain] 30)).alloc (.cells #[.int .u64 md.serial, .int .i64 md.epoch, .int .i64 md.view, .int .i64 md.normal, .int .i64 md.top, .int .i64 md.base, .int .i64 md.area, .int .i64 md.start, .int .u32 md.chain] 30)).alloc (.cells #[.slice KA mk kc, .int .i64 torn, .int .i64 cut] 33)) = W3 at H3 Z1 Z2 ⊢
  have tok1 : True := trivial
  go_wp2_with (first
    | (go_at_call 9; go_must (refine (awake_true _).mono ?_; rintro e w1 ⟨rfl, hb1⟩; have HB1 := Lib.hid hb1; have Y1 := Lib.hid (blk_below Z1.out hb1); clear hb1))
    | (refine wpList_load_blk rfl 30 _ rfl (b := w.heap.size) rfl _ rfl rfl (fun _ => by simp [go_sem, isAgg]) Y1.out ?_)
    | (go_at_call 10; have _t := tok1; clear tok1; go_must (clear _t; refine (HCK1.out _).mono ?_; rintro e w2 ⟨rfl, hb2⟩; have HBL := Lib.hid (bthen HB1.out hb2); obtain ⟨q0, q1, q2, q3, q4, q5, q6, q7, q8⟩ := KM0.out _ (blk_below Z2.out HBL.out); clear hb2))
    | (go_at_call 10; go_must (refine (HCK2.out _).mono ?_; rintro e w3 ⟨rfl, hb3⟩; have HBM := Lib.hid (bthen HBL.out hb3); have Y3 := Lib.hid (blk_below Z1.out HBM.out); clear q0 q1 q2 q3 q4 q5 q6 q7 q8; have hs0 : w3.cell? ⟨w.heap.size, 0, none⟩ = some (.int .u64 (old.serial : Int)) := blk_cell Y3.out 0; clear hb3)))
  go_ret
  exact ⟨rfl, bthen H3.out HBL.out⟩
set_option maxHeartbeats 2000000 in
theorem SuperCrash_badmade (w : World) (old md : Sup) (hoo : old.ok) (hom : ¬ md.ok) (KA : Option Addr) (mk kc : Nat) (torn cut : Int) (z : Nat) :
    Calls Tryz.prog 4 #[.agg old.cells, .agg md.cells, .agg #[.slice KA mk kc, .int .i64 torn, .int .i64 cut], .int .u8 (z : Int)] w (RetTrue w) := by
  have h3 : Below w.heap.size w (((w.alloc (.cells #[.int .u64 old.serial, .int .i64 old.epoch, .int .i64 old.view, .int .i64 old.normal, .int .i64 old.top, .int .i64 old.base, .int .i64 old.area, .int .i64 old.start, .int .u32 old.chain] 30)).alloc (.cells #[.int .u64 md.serial, .int .i64 md.epoch, .int .i64 md.view, .int .i64 md.normal, .int .i64 md.top, .int .i64 md.base, .int .i64 md.area, .int .i64 md.start, .int .u32 md.chain] 30)).alloc (.cells #[.slice KA mk kc, .int .i64 torn, .int .i64 cut] 33)) := bx (bx (bx (Below.refl _ w) _) _) _
  have z1 : (((w.alloc (.cells #[.int .u64 old.serial, .int .i64 old.epoch, .int .i64 old.view, .int .i64 old.normal, .int .i64 old.top, .int .i64 old.base, .int .i64 old.area, .int .i64 old.start, .int .u32 old.chain] 30)).alloc (.cells #[.int .u64 md.serial, .int .i64 md.epoch, .int .i64 md.view, .int .i64 md.normal, .int .i64 md.top, .int .i64 md.base, .int .i64 md.area, .int .i64 md.start, .int .u32 md.chain] 30)).alloc (.cells #[.slice KA mk kc, .int .i64 torn, .int .i64 cut] 33)).heap[w.heap.size]? = some (.cells #[.int .u64 old.serial, .int .i64 old.epoch, .int .i64 old.view, .int .i64 old.normal, .int .i64 old.top, .int .i64 old.base, .int .i64 old.area, .int .i64 old.start, .int .u32 old.chain] 30 (0, 0)) := blk_alloc (blk_alloc (blk_new w _) _) _
  have z2 : (((w.alloc (.cells #[.int .u64 old.serial, .int .i64 old.epoch, .int .i64 old.view, .int .i64 old.normal, .int .i64 old.top, .int .i64 old.base, .int .i64 old.area, .int .i64 old.start, .int .u32 old.chain] 30)).alloc (.cells #[.int .u64 md.serial, .int .i64 md.epoch, .int .i64 md.view, .int .i64 md.normal, .int .i64 md.top, .int .i64 md.base, .int .i64 md.area, .int .i64 md.start, .int .u32 md.chain] 30)).alloc (.cells #[.slice KA mk kc, .int .i64 torn, .int .i64 cut] 33)).heap[w.heap.size + 1]? = some (.cells #[.int .u64 md.serial, .int .i64 md.epoch, .int .i64 md.view, .int .i64 md.normal, .int .i64 md.top, .int .i64 md.base, .int .i64 md.area, .int .i64 md.start, .int .u32 md.chain] 30 (0, 0)) := by have := blk_alloc (blk_new (w.alloc (.cells #[.int .u64 old.serial, .int .i64 old.epoch, .int .i64 old.view, .int .i64 old.normal, .int .i64 old.top, .int .i64 old.base, .int .i64 old.area, .int .i64 old.start, .int .u32 old.chain] 30)) (.cells #[.int .u64 md.serial, .int .i64 md.epoch, .int .i64 md.view, .int .i64 md.normal, .int .i64 md.top, .int .i64 md.base, .int .i64 md.area, .int .i64 md.start, .int .u32 md.chain] 30)) (.cells #[.slice KA mk kc, .int .i64 torn, .int .i64 cut] 33); simpa only [World.size_alloc] using this
  have KM0 := Lib.hid (fun (W : World) (hb : W.heap[w.heap.size + 1]? = some (.cells #[.int .u64 md.serial, .int .i64 md.epoch, .int .i64 md.view, .int .i64 md.normal, .int .i64 md.top, .int .i64 md.base, .int .i64 md.area, .int .i64 md.start, .int .u32 md.chain] 30 (0, 0))) => (⟨blk_cell hb 0, blk_cell hb 1, blk_cell hb 2, blk_cell hb 3, blk_cell hb 4, blk_cell hb 5, blk_cell hb 6, blk_cell hb 7, blk_cell hb 8⟩ : W.cell? ⟨w.heap.size + 1, 0, none⟩ = some (.int .u64 md.serial) ∧ W.cell? ⟨w.heap.size + 1, 1, none⟩ = some (.int .i64 md.epoch) ∧ W.cell? ⟨w.heap.size + 1, 2, none⟩ = some (.int .i64 md.view) ∧ W.cell? ⟨w.heap.size + 1, 3, none⟩ = some (.int .i64 md.normal) ∧ W.cell? ⟨w.heap.size + 1, 4, none⟩ = some (.int .i64 md.top) ∧ W.cell? ⟨w.heap.size + 1, 5, none⟩ = some (.int .i64 md.base) ∧ W.cell? ⟨w.heap.size + 1, 6, none⟩ = some (.int .i64 md.area) ∧ W.cell? ⟨w.heap.size + 1, 7, none⟩ = some (.int .i64 md.start) ∧ W.cell? ⟨w.heap.size + 1, 8, none⟩ = some (.int .u32 md.chain)))
  have HCK1 := Lib.hid (fun (W : World) => (by have := RCheck_any old W; unfold RetI at this; rw [show chk old = 0 from if_pos hoo, show old.cells = #[.int .u64 old.serial, .int .i64 old.epoch, .int .i64 old.view, .int .i64 old.normal, .int .i64 old.top, .int .i64 old.base, .int .i64 old.area, .int .i64 old.start, .int .u32 old.chain] from rfl] at this; exact this))
  have HCK2 := Lib.hid (fun (W : World) => (by have := RCheck_any md W; unfold RetI at this; rw [show chk md = 90 from if_neg hom, show md.cells = #[.int .u64 md.serial, .int .i64 md.epoch, .int .i64 md.view, .int .i64 md.normal, .int .i64 md.top, .int .i64 md.base, .int .i64 md.area, .int .i64 md.start, .int .u32 md.chain] from rfl] at this; exact this))
  rw [show old.cells = #[.int .u64 old.serial, .int .i64 old.epoch, .int .i64 old.view, .int .i64 old.normal, .int .i64 old.top, .int .i64 old.base, .int .i64 old.area, .int .i64 old.start, .int .u32 old.chain] from rfl, show md.cells = #[.int .u64 md.serial, .int .i64 md.epoch, .int .i64 md.view, .int .i64 md.normal, .int .i64 md.top, .int .i64 md.base, .int .i64 md.area, .int .i64 md.start, .int .u32 md.chain] from rfl]
  have H3 := Lib.hid h3
  have Z1 := Lib.hid z1
  have Z2 := Lib.hid z2
  clear h3 z1 z2 hoo hom
  go_enter Tryz.func4, Tryz.ntmps4
  go_upto_region 1 with fail
  generalize (((w.alloc (.cells #[.int .u64 old.serial, .int .i64 old.epoch, .int .i64 old.view, .int .i64 old.normal, .int .i64 old.top, .int .i64 old.base, .int .i64 old.area, .int .i64 old.start, .int .u32 old.chain] 30)).alloc (.cells #[.int .u64 md.serial, .int .i64 md.epoch, .int .i64 md.view, .int .i64 md.normal, .int .i64 md.top, .int .i64 md.base, .int .i64 md.area, .int .i64 md.start, .int .u32 md.chain] 30)).alloc (.cells #[.slice KA mk kc, .int .i64 torn, .int .i64 cut] 33)) = W3 at H3 Z1 Z2 ⊢
  have tok1 : True := trivial
  go_wp2_with (first
    | (go_at_call 9; go_must (refine (awake_true _).mono ?_; rintro e w1 ⟨rfl, hb1⟩; have HB1 := Lib.hid hb1; have Y1 := Lib.hid (blk_below Z1.out hb1); clear hb1))
    | (refine wpList_load_blk rfl 30 _ rfl (b := w.heap.size) rfl _ rfl rfl (fun _ => by simp [go_sem, isAgg]) Y1.out ?_)
    | (go_at_call 10; have _t := tok1; clear tok1; go_must (clear _t; refine (HCK1.out _).mono ?_; rintro e w2 ⟨rfl, hb2⟩; have HBL := Lib.hid (bthen HB1.out hb2); obtain ⟨q0, q1, q2, q3, q4, q5, q6, q7, q8⟩ := KM0.out _ (blk_below Z2.out HBL.out); clear hb2))
    | (go_at_call 10; go_must (refine (HCK2.out _).mono ?_; rintro e w3 ⟨rfl, hb3⟩; have HBM := Lib.hid (bthen HBL.out hb3); have Y3 := Lib.hid (blk_below Z1.out HBM.out); clear q0 q1 q2 q3 q4 q5 q6 q7 q8; have hs0 : w3.cell? ⟨w.heap.size, 0, none⟩ = some (.int .u64 (old.serial : Int)) := blk_cell Y3.out 0; clear hb3)))
  go_ret
  exact ⟨rfl, bthen H3.out HBM.out⟩
set_option maxHeartbeats 2000000 in
theorem SuperCrash_late (w : World) (old md : Sup) (hoo : old.ok) (hom : md.ok) (h62 : 4611686018427387904 ≤ old.serial) (KA : Option Addr) (mk kc : Nat) (torn cut : Int) (z : Nat) :
    Calls Tryz.prog 4 #[.agg old.cells, .agg md.cells, .agg #[.slice KA mk kc, .int .i64 torn, .int .i64 cut], .int .u8 (z : Int)] w (RetTrue w) := by
  have h3 : Below w.heap.size w (((w.alloc (.cells #[.int .u64 old.serial, .int .i64 old.epoch, .int .i64 old.view, .int .i64 old.normal, .int .i64 old.top, .int .i64 old.base, .int .i64 old.area, .int .i64 old.start, .int .u32 old.chain] 30)).alloc (.cells #[.int .u64 md.serial, .int .i64 md.epoch, .int .i64 md.view, .int .i64 md.normal, .int .i64 md.top, .int .i64 md.base, .int .i64 md.area, .int .i64 md.start, .int .u32 md.chain] 30)).alloc (.cells #[.slice KA mk kc, .int .i64 torn, .int .i64 cut] 33)) := bx (bx (bx (Below.refl _ w) _) _) _
  have z1 : (((w.alloc (.cells #[.int .u64 old.serial, .int .i64 old.epoch, .int .i64 old.view, .int .i64 old.normal, .int .i64 old.top, .int .i64 old.base, .int .i64 old.area, .int .i64 old.start, .int .u32 old.chain] 30)).alloc (.cells #[.int .u64 md.serial, .int .i64 md.epoch, .int .i64 md.view, .int .i64 md.normal, .int .i64 md.top, .int .i64 md.base, .int .i64 md.area, .int .i64 md.start, .int .u32 md.chain] 30)).alloc (.cells #[.slice KA mk kc, .int .i64 torn, .int .i64 cut] 33)).heap[w.heap.size]? = some (.cells #[.int .u64 old.serial, .int .i64 old.epoch, .int .i64 old.view, .int .i64 old.normal, .int .i64 old.top, .int .i64 old.base, .int .i64 old.area, .int .i64 old.start, .int .u32 old.chain] 30 (0, 0)) := blk_alloc (blk_alloc (blk_new w _) _) _
  have z2 : (((w.alloc (.cells #[.int .u64 old.serial, .int .i64 old.epoch, .int .i64 old.view, .int .i64 old.normal, .int .i64 old.top, .int .i64 old.base, .int .i64 old.area, .int .i64 old.start, .int .u32 old.chain] 30)).alloc (.cells #[.int .u64 md.serial, .int .i64 md.epoch, .int .i64 md.view, .int .i64 md.normal, .int .i64 md.top, .int .i64 md.base, .int .i64 md.area, .int .i64 md.start, .int .u32 md.chain] 30)).alloc (.cells #[.slice KA mk kc, .int .i64 torn, .int .i64 cut] 33)).heap[w.heap.size + 1]? = some (.cells #[.int .u64 md.serial, .int .i64 md.epoch, .int .i64 md.view, .int .i64 md.normal, .int .i64 md.top, .int .i64 md.base, .int .i64 md.area, .int .i64 md.start, .int .u32 md.chain] 30 (0, 0)) := by have := blk_alloc (blk_new (w.alloc (.cells #[.int .u64 old.serial, .int .i64 old.epoch, .int .i64 old.view, .int .i64 old.normal, .int .i64 old.top, .int .i64 old.base, .int .i64 old.area, .int .i64 old.start, .int .u32 old.chain] 30)) (.cells #[.int .u64 md.serial, .int .i64 md.epoch, .int .i64 md.view, .int .i64 md.normal, .int .i64 md.top, .int .i64 md.base, .int .i64 md.area, .int .i64 md.start, .int .u32 md.chain] 30)) (.cells #[.slice KA mk kc, .int .i64 torn, .int .i64 cut] 33); simpa only [World.size_alloc] using this
  have KM0 := Lib.hid (fun (W : World) (hb : W.heap[w.heap.size + 1]? = some (.cells #[.int .u64 md.serial, .int .i64 md.epoch, .int .i64 md.view, .int .i64 md.normal, .int .i64 md.top, .int .i64 md.base, .int .i64 md.area, .int .i64 md.start, .int .u32 md.chain] 30 (0, 0))) => (⟨blk_cell hb 0, blk_cell hb 1, blk_cell hb 2, blk_cell hb 3, blk_cell hb 4, blk_cell hb 5, blk_cell hb 6, blk_cell hb 7, blk_cell hb 8⟩ : W.cell? ⟨w.heap.size + 1, 0, none⟩ = some (.int .u64 md.serial) ∧ W.cell? ⟨w.heap.size + 1, 1, none⟩ = some (.int .i64 md.epoch) ∧ W.cell? ⟨w.heap.size + 1, 2, none⟩ = some (.int .i64 md.view) ∧ W.cell? ⟨w.heap.size + 1, 3, none⟩ = some (.int .i64 md.normal) ∧ W.cell? ⟨w.heap.size + 1, 4, none⟩ = some (.int .i64 md.top) ∧ W.cell? ⟨w.heap.size + 1, 5, none⟩ = some (.int .i64 md.base) ∧ W.cell? ⟨w.heap.size + 1, 6, none⟩ = some (.int .i64 md.area) ∧ W.cell? ⟨w.heap.size + 1, 7, none⟩ = some (.int .i64 md.start) ∧ W.cell? ⟨w.heap.size + 1, 8, none⟩ = some (.int .u32 md.chain)))
  have HCK1 := Lib.hid (fun (W : World) => (by have := RCheck_any old W; unfold RetI at this; rw [show chk old = 0 from if_pos hoo, show old.cells = #[.int .u64 old.serial, .int .i64 old.epoch, .int .i64 old.view, .int .i64 old.normal, .int .i64 old.top, .int .i64 old.base, .int .i64 old.area, .int .i64 old.start, .int .u32 old.chain] from rfl] at this; exact this))
  have HCK2 := Lib.hid (fun (W : World) => (by have := RCheck_any md W; unfold RetI at this; rw [show chk md = 0 from if_pos hom, show md.cells = #[.int .u64 md.serial, .int .i64 md.epoch, .int .i64 md.view, .int .i64 md.normal, .int .i64 md.top, .int .i64 md.base, .int .i64 md.area, .int .i64 md.start, .int .u32 md.chain] from rfl] at this; exact this))
  rw [show old.cells = #[.int .u64 old.serial, .int .i64 old.epoch, .int .i64 old.view, .int .i64 old.normal, .int .i64 old.top, .int .i64 old.base, .int .i64 old.area, .int .i64 old.start, .int .u32 old.chain] from rfl, show md.cells = #[.int .u64 md.serial, .int .i64 md.epoch, .int .i64 md.view, .int .i64 md.normal, .int .i64 md.top, .int .i64 md.base, .int .i64 md.area, .int .i64 md.start, .int .u32 md.chain] from rfl]
  have H3 := Lib.hid h3
  have Z1 := Lib.hid z1
  have Z2 := Lib.hid z2
  have hge : decide ((4611686018427387904 : Int) ≤ (old.serial : Int)) = true := by rw [decide_eq_true_iff]; omega
  clear h3 z1 z2 hoo hom h62
  go_enter Tryz.func4, Tryz.ntmps4
  go_upto_region 1 with fail
  generalize (((w.alloc (.cells #[.int .u64 old.serial, .int .i64 old.epoch, .int .i64 old.view, .int .i64 old.normal, .int .i64 old.top, .int .i64 old.base, .int .i64 old.area, .int .i64 old.start, .int .u32 old.chain] 30)).alloc (.cells #[.int .u64 md.serial, .int .i64 md.epoch, .int .i64 md.view, .int .i64 md.normal, .int .i64 md.top, .int .i64 md.base, .int .i64 md.area, .int .i64 md.start, .int .u32 md.chain] 30)).alloc (.cells #[.slice KA mk kc, .int .i64 torn, .int .i64 cut] 33)) = W3 at H3 Z1 Z2 ⊢
  have tok1 : True := trivial
  go_wp2_with (first
    | (go_at_call 9; go_must (refine (awake_true _).mono ?_; rintro e w1 ⟨rfl, hb1⟩; have HB1 := Lib.hid hb1; have Y1 := Lib.hid (blk_below Z1.out hb1); clear hb1))
    | (refine wpList_load_blk rfl 30 _ rfl (b := w.heap.size) rfl _ rfl rfl (fun _ => by simp [go_sem, isAgg]) Y1.out ?_)
    | (go_at_call 10; have _t := tok1; clear tok1; go_must (clear _t; refine (HCK1.out _).mono ?_; rintro e w2 ⟨rfl, hb2⟩; have HBL := Lib.hid (bthen HB1.out hb2); obtain ⟨q0, q1, q2, q3, q4, q5, q6, q7, q8⟩ := KM0.out _ (blk_below Z2.out HBL.out); clear hb2))
    | (go_at_call 10; go_must (refine (HCK2.out _).mono ?_; rintro e w3 ⟨rfl, hb3⟩; have HBM := Lib.hid (bthen HBL.out hb3); have Y3 := Lib.hid (blk_below Z1.out HBM.out); clear q0 q1 q2 q3 q4 q5 q6 q7 q8; have hs0 : w3.cell? ⟨w.heap.size, 0, none⟩ = some (.int .u64 (old.serial : Int)) := blk_cell Y3.out 0; clear hb3)))
  go_ret
  exact ⟨rfl, bthen H3.out HBM.out⟩
theorem SuperCrash_walk (w : World) (old md : Sup) (hfo : old.fit) (hfm : md.fit) (KA : Option Addr) (mk kc : Nat) (keep : List Bool) (torn cut : Int) (hK : Rd w 1 KA mk kc (keep.map Value.bool)) (z : Nat) (hz : z ≤ 255) :
    Calls Tryz.prog 4 #[.agg old.cells, .agg md.cells, .agg #[.slice KA mk kc, .int .i64 torn, .int .i64 cut], .int .u8 (z : Int)] w (RetTrue w) := by
  by_cases hoo : old.ok
  · by_cases hom : md.ok
    · rcases Nat.lt_or_ge old.serial 4611686018427387904 with h | h
      · exact SuperCrash_good w old md hfo hfm hoo hom h KA mk kc keep torn cut hK z hz
      · exact SuperCrash_late w old md hoo hom h KA mk kc torn cut z
    · exact SuperCrash_badmade w old md hoo hom KA mk kc torn cut z
  · exact SuperCrash_badold w old md hoo KA mk kc torn cut z
end Go.Proofs.YtaldjmhikebecaaGreat
namespace Go.Proofs.YtaldjmhikebecaaGreat
open Go.ChangeShapes Go.WideShapes Go.ChangeAt Go.RowKit
set_option linter.unusedVariables false
set_option maxRecDepth 100000
theorem super_crash_lifted (os : Os) (started : os.Started) (H : Type) (enc : TypeId × Value → H) :
    ReturnsInHanded {} Tryz.checked os 4 .any (Rows.superCrashSpec.pre6 enc Tryz.prog Tryz.f4 Rows.superCrashRow.domain false) (Rows.superCrashSpec.post enc Tryz.prog Tryz.f4 false true false false) := by
  refine returnsInHanded_of_change_sized (C := Tryz.checked) own_knob started (by kernel_rfl) Tryz.func4
    (ChangeSpec.witness6 (enc := enc) (C := Tryz.checked) false ⟨#[], #[.agg #[.int .u64 0, .int .i64 0, .int .i64 0, .int .i64 0, .int .i64 0, .int .i64 0, .int .i64 0, .int .i64 0, .int .u32 0], .agg #[.int .u64 0, .int .i64 0, .int .i64 0, .int .i64 0, .int .i64 0, .int .i64 0, .int .i64 0, .int .i64 0, .int .u32 0], .agg #[.slice none 0 0, .int .i64 0, .int .i64 0], .int .u8 0], []⟩ 8 (by kernel_rfl) (by kernel_rfl) (by kernel_rfl) (by kernel_rfl)) ?_
  intro W base args ds gs before hval hW _ hsz _
  have hW' := hW
  obtain ⟨p, q, hA0, hV, rfl, hfz, hnd⟩ := hW
  have hA : DataW.TrodAll enc Tryz.prog W 0 (fun _ => true) true Tryz.f4.params.toList args.toList ds p := hA0
  rw [Tryz.params4] at hA hval
  obtain ⟨v0, vs0, d0, ds0, p0, q0, hargs, rfl, rfl, h0, r0⟩ := trodAll_cons hA
  obtain ⟨v1, vs1, d1, ds1, p1, q1, rfl, rfl, rfl, h1, r1⟩ := trodAll_cons r0
  obtain ⟨v2, vs2, d2, ds2, p2, q2, rfl, rfl, rfl, h2, r2⟩ := trodAll_cons r1
  obtain ⟨v3, vs3, d3, ds3, p3, q3, rfl, rfl, rfl, h3, r3⟩ := trodAll_cons r2
  obtain ⟨rfl, rfl, rfl⟩ := trodAll_nil r3
  obtain rfl : args = #[v0, v1, v2, v3] := by cases args; simp_all
  obtain ⟨rfl, rfl⟩ := trodVars_none hV
  obtain ⟨s0, rfl, hf0⟩ := open_sup (hval 0 30 v0 rfl rfl) h0
  obtain ⟨s1, rfl, hf1⟩ := open_sup (hval 1 30 v1 rfl rfl) h1
  obtain ⟨A2, n2, c2, keep2, torn2, cut2, rfl, hk2, ht2, hc2⟩ := open_crash (hval 2 33 v2 rfl rfl) h2
  obtain ⟨a, rfl, rfl, rfl, wa⟩ := open_int Tryz.underlying5 (hval 3 5 v3 rfl rfl) h3
  have ka : 0 ≤ a ∧ a ≤ 255 := by simpa [Lit.wf, IntKind.min, IntKind.max, IntKind.signed, IntKind.bits] using wa
  obtain ⟨a, rfl⟩ := Int.eq_ofNat_of_zero_le ka.1
  have hread : ∀ t ∈ Tryz.f4.params.toList, Tryz.prog.readableRec t = true ∧ t < Tryz.prog.types.size := by
    rw [Tryz.params4]
    intro t ht
    simp only [List.mem_cons, List.not_mem_nil, or_false] at ht
    rcases ht with rfl | rfl | rfl | rfl
    · exact ⟨by kernel_rfl, of_decide_eq_true (by kernel_rfl)⟩
    · exact ⟨by kernel_rfl, of_decide_eq_true (by kernel_rfl)⟩
    · exact ⟨by kernel_rfl, of_decide_eq_true (by kernel_rfl)⟩
    · exact ⟨by kernel_rfl, of_decide_eq_true (by kernel_rfl)⟩
  have hwalk := SuperCrash_walk W s0 s1 hf0 hf1 A2 n2 c2 keep2 torn2 cut2 hk2 a (by omega)
  refine hwalk.mono fun e W' ⟨he, hg⟩ => ?_
  exact ⟨_, he, post_true hW' hg rfl rfl rfl rfl (by kernel_rfl) hread⟩
theorem super_crash_holds : Rows.SuperCrashSaid :=
  OpenClaim.holds_of_wide 4 Tryz.f4 rfl rfl rfl rfl rfl rfl rfl ⟨rfl, rfl, rfl, rfl, rfl⟩ rfl rfl rfl rfl rfl (by kernel_rfl) Tryz.func4 (by kernel_rfl)
    (of_decide_eq_true (by kernel_rfl)) (by unfold Func.isWrapper; first | (rw [if_pos (by decide +kernel)]; kernel_rfl) | (rw [if_neg (by decide +kernel)]; exact ⟨rfl, rfl⟩))
    (fun os started H enc _ => super_crash_lifted os started H enc)
end Go.Proofs.YtaldjmhikebecaaGreat
