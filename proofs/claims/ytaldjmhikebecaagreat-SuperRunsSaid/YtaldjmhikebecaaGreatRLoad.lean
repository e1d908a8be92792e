/- The reference of layer 9: Load. -/
import Derived.Test.YtaldjmhikebecaaGreatRSlot
namespace Go.Proofs.YtaldjmhikebecaaGreat
open Go Go.RowKit
set_option maxRecDepth 100000
set_option linter.unusedVariables false
attribute [local go_sem] Oper.semAt_some
theorem slot_is {k : Dsk} {j : Nat} (h : (k.slot j).isSome = true) : k.slot j = some (k.slotS j) := by
  unfold Dsk.slot Dsk.slotS at *
  cases hr : k.read j 1 with
  | none => rw [hr] at h; cases h
  | some l =>
    rw [hr] at h
    simp only at h ⊢
    split at h
    · rename_i hc
      rw [if_pos hc]
    · cases h
theorem slot_isnt {k : Dsk} {j : Nat} (h : (k.slot j).isSome = false) : k.slot j = none := by
  cases hs : k.slot j with
  | none => rfl
  | some s => rw [hs] at h; cases h
theorem slot_parity {k : Dsk} {j : Nat} {s : Sup} (h : k.slot j = some s) : s.serial % 2 = j := by
  unfold Dsk.slot at h
  split at h
  · cases h
  · split at h
    · rename_i hc
      injection h with h
      rw [← h]
      exact hc.2
    · cases h
section
variable {w w' : World} {r L cap : Nat} {k : Dsk} {X : Nat → Prop}
set_option maxHeartbeats 2000000 in
theorem RLoad_none (h : OnRef X w r L cap k) (hn : 2 ≤ k.n) (hs : 72 ≤ k.size) (sa sb : Sup) (ha : k.slotS 0 = sa) (hb : k.slotS 1 = sb) (h0 : (k.slot 0).isSome = false) (h1 : (k.slot 1).isSome = false) : Calls Tryz.prog 26 #[.pointer (some ⟨r, 0, none⟩)] w fun e w' => e = .returned (.tuple #[.agg #[.int .u64 0, .int .i64 0, .int .i64 0, .int .i64 0, .int .i64 0, .int .i64 0, .int .i64 0, .int .i64 0, .int .u32 0], .int .i64 91]) ∧ Below w.heap.size w w' := by
  have HFITS := Lib.hid (fun (W : World) (hb : Below w.heap.size w W) => by have := Rfits_ok (h.below hb); rw [decide_eq_true (And.intro hn hs)] at this; exact this)
  have HS0 := Lib.hid (fun (W : World) (hw : Below w.heap.size w W) => by have := RSlot_ok (h.below hw) 0 (by omega) hn; rw [ha, h0, show sa.cells = #[.int .u64 sa.serial, .int .i64 sa.epoch, .int .i64 sa.view, .int .i64 sa.normal, .int .i64 sa.top, .int .i64 sa.base, .int .i64 sa.area, .int .i64 sa.start, .int .u32 sa.chain] from rfl] at this; exact this)
  have HS1 := Lib.hid (fun (W : World) (hw : Below w.heap.size w W) => by have := RSlot_ok (h.below hw) 1 (by omega) hn; rw [hb, h1, show sb.cells = #[.int .u64 sb.serial, .int .i64 sb.epoch, .int .i64 sb.view, .int .i64 sb.normal, .int .i64 sb.top, .int .i64 sb.base, .int .i64 sb.area, .int .i64 sb.start, .int .u32 sb.chain] from rfl] at this; exact this)
  have HB1 := Lib.hid (show Below w.heap.size w (w.alloc (.cells #[.int .u64 0, .int .i64 0, .int .i64 0, .int .i64 0, .int .i64 0, .int .i64 0, .int .i64 0, .int .i64 0, .int .u32 0] 30)) from (Below.refl _ w).alloc (Nat.le_refl _) _)
  have HX := Lib.hid (blk_new w (.cells #[.int .u64 0, .int .i64 0, .int .i64 0, .int .i64 0, .int .i64 0, .int .i64 0, .int .i64 0, .int .i64 0, .int .u32 0] 30))
  have tok1 : True := trivial
  clear h hn hs ha hb h0 h1
  go_enter Tryz.func26, Tryz.ntmps26
  go_wp2_with (first
    | (go_at_call 50; go_must (refine (HFITS.out _ HB1.out).mono ?_; rintro e wf ⟨rfl, hwf⟩; obtain rfl := hwf.symm))
    | (go_at_call 56; have _t := tok1; clear tok1; go_must (clear _t; refine (HS0.out _ HB1.out).mono ?_; rintro e wx ⟨rfl, hbx⟩; have HBA := Lib.hid (bthen HB1.out hbx); have HXA := Lib.hid (blk_below HX.out hbx); have HBA2 := Lib.hid (HBA.out.alloc HBA.out.size (.cells #[.int .u64 sa.serial, .int .i64 sa.epoch, .int .i64 sa.view, .int .i64 sa.normal, .int .i64 sa.top, .int .i64 sa.base, .int .i64 sa.area, .int .i64 sa.start, .int .u32 sa.chain] 30)); have HA := Lib.hid (blk_new wx (.cells #[.int .u64 sa.serial, .int .i64 sa.epoch, .int .i64 sa.view, .int .i64 sa.normal, .int .i64 sa.top, .int .i64 sa.base, .int .i64 sa.area, .int .i64 sa.start, .int .u32 sa.chain] 30)); have HXA2 := Lib.hid (blk_alloc HXA.out (.cells #[.int .u64 sa.serial, .int .i64 sa.epoch, .int .i64 sa.view, .int .i64 sa.normal, .int .i64 sa.top, .int .i64 sa.base, .int .i64 sa.area, .int .i64 sa.start, .int .u32 sa.chain] 30)); clear hbx))
    | (go_at_call 56; go_must (refine (HS1.out _ HBA2.out).mono ?_; rintro e wy ⟨rfl, hby⟩; have HBB := Lib.hid (bthen HBA2.out hby); have HXB := Lib.hid (blk_below HXA2.out hby); have HAB := Lib.hid (blk_below HA.out hby); have HBB2 := Lib.hid (HBB.out.alloc HBB.out.size (.cells #[.int .u64 sb.serial, .int .i64 sb.epoch, .int .i64 sb.view, .int .i64 sb.normal, .int .i64 sb.top, .int .i64 sb.base, .int .i64 sb.area, .int .i64 sb.start, .int .u32 sb.chain] 30)); have HB := Lib.hid (blk_new wy (.cells #[.int .u64 sb.serial, .int .i64 sb.epoch, .int .i64 sb.view, .int .i64 sb.normal, .int .i64 sb.top, .int .i64 sb.base, .int .i64 sb.area, .int .i64 sb.start, .int .u32 sb.chain] 30)); have ya : wy.cell? ⟨wx.heap.size, 0, none⟩ = some (.int .u64 sa.serial) := blk_cell HAB.out 0; have hlx := blk_lt HAB.out; clear hby))
    | (refine wpList_load_blk rfl 30 _ rfl (b := wx.heap.size) rfl _ rfl rfl (fun _ => by simp [go_sem, isAgg]) (blk_alloc HAB.out _) ?_)
    | (refine wpList_load_blk rfl 30 _ rfl (b := wy.heap.size) rfl _ rfl rfl (fun _ => by simp [go_sem, isAgg]) HB.out ?_)
    | (refine wpList_store_blk rfl 30 _ _ rfl (b := w.heap.size) rfl rfl _ rfl rfl (by simp [Value.oneCell']) (blk_alloc HXB.out _) rfl ?_; intro w9 hb9 hg9 hz9; have HB9 := Lib.hid hb9; have HG9 := Lib.hid hg9; clear hb9 hg9 hz9))
  refine bodyPost_ret (results_blk 2 3 30 rfl rfl rfl _ rfl rfl (fun _ => by simp [go_sem, isAgg]) HB9.out) rfl ⟨rfl, ?_⟩
  exact grown_bel HBB2.out HG9.out (Nat.le_refl _)
set_option maxHeartbeats 2000000 in
theorem RLoad_fst (h : OnRef X w r L cap k) (hn : 2 ≤ k.n) (hs : 72 ≤ k.size) (sa sb : Sup) (ha : k.slotS 0 = sa) (hb : k.slotS 1 = sb) (h0 : (k.slot 0).isSome = true) (h1 : (k.slot 1).isSome = false) : Calls Tryz.prog 26 #[.pointer (some ⟨r, 0, none⟩)] w fun e w' => e = .returned (.tuple #[.agg #[.int .u64 sa.serial, .int .i64 sa.epoch, .int .i64 sa.view, .int .i64 sa.normal, .int .i64 sa.top, .int .i64 sa.base, .int .i64 sa.area, .int .i64 sa.start, .int .u32 sa.chain], .int .i64 0]) ∧ Below w.heap.size w w' := by
  have HFITS := Lib.hid (fun (W : World) (hb : Below w.heap.size w W) => by have := Rfits_ok (h.below hb); rw [decide_eq_true (And.intro hn hs)] at this; exact this)
  have HS0 := Lib.hid (fun (W : World) (hw : Below w.heap.size w W) => by have := RSlot_ok (h.below hw) 0 (by omega) hn; rw [ha, h0, show sa.cells = #[.int .u64 sa.serial, .int .i64 sa.epoch, .int .i64 sa.view, .int .i64 sa.normal, .int .i64 sa.top, .int .i64 sa.base, .int .i64 sa.area, .int .i64 sa.start, .int .u32 sa.chain] from rfl] at this; exact this)
  have HS1 := Lib.hid (fun (W : World) (hw : Below w.heap.size w W) => by have := RSlot_ok (h.below hw) 1 (by omega) hn; rw [hb, h1, show sb.cells = #[.int .u64 sb.serial, .int .i64 sb.epoch, .int .i64 sb.view, .int .i64 sb.normal, .int .i64 sb.top, .int .i64 sb.base, .int .i64 sb.area, .int .i64 sb.start, .int .u32 sb.chain] from rfl] at this; exact this)
  have HB1 := Lib.hid (show Below w.heap.size w (w.alloc (.cells #[.int .u64 0, .int .i64 0, .int .i64 0, .int .i64 0, .int .i64 0, .int .i64 0, .int .i64 0, .int .i64 0, .int .u32 0] 30)) from (Below.refl _ w).alloc (Nat.le_refl _) _)
  have HX := Lib.hid (blk_new w (.cells #[.int .u64 0, .int .i64 0, .int .i64 0, .int .i64 0, .int .i64 0, .int .i64 0, .int .i64 0, .int .i64 0, .int .u32 0] 30))
  have tok1 : True := trivial
  clear h hn hs ha hb h0 h1
  go_enter Tryz.func26, Tryz.ntmps26
  go_wp2_with (first
    | (go_at_call 50; go_must (refine (HFITS.out _ HB1.out).mono ?_; rintro e wf ⟨rfl, hwf⟩; obtain rfl := hwf.symm))
    | (go_at_call 56; have _t := tok1; clear tok1; go_must (clear _t; refine (HS0.out _ HB1.out).mono ?_; rintro e wx ⟨rfl, hbx⟩; have HBA := Lib.hid (bthen HB1.out hbx); have HXA := Lib.hid (blk_below HX.out hbx); have HBA2 := Lib.hid (HBA.out.alloc HBA.out.size (.cells #[.int .u64 sa.serial, .int .i64 sa.epoch, .int .i64 sa.view, .int .i64 sa.normal, .int .i64 sa.top, .int .i64 sa.base, .int .i64 sa.area, .int .i64 sa.start, .int .u32 sa.chain] 30)); have HA := Lib.hid (blk_new wx (.cells #[.int .u64 sa.serial, .int .i64 sa.epoch, .int .i64 sa.view, .int .i64 sa.normal, .int .i64 sa.top, .int .i64 sa.base, .int .i64 sa.area, .int .i64 sa.start, .int .u32 sa.chain] 30)); have HXA2 := Lib.hid (blk_alloc HXA.out (.cells #[.int .u64 sa.serial, .int .i64 sa.epoch, .int .i64 sa.view, .int .i64 sa.normal, .int .i64 sa.top, .int .i64 sa.base, .int .i64 sa.area, .int .i64 sa.start, .int .u32 sa.chain] 30)); clear hbx))
    | (go_at_call 56; go_must (refine (HS1.out _ HBA2.out).mono ?_; rintro e wy ⟨rfl, hby⟩; have HBB := Lib.hid (bthen HBA2.out hby); have HXB := Lib.hid (blk_below HXA2.out hby); have HAB := Lib.hid (blk_below HA.out hby); have HBB2 := Lib.hid (HBB.out.alloc HBB.out.size (.cells #[.int .u64 sb.serial, .int .i64 sb.epoch, .int .i64 sb.view, .int .i64 sb.normal, .int .i64 sb.top, .int .i64 sb.base, .int .i64 sb.area, .int .i64 sb.start, .int .u32 sb.chain] 30)); have HB := Lib.hid (blk_new wy (.cells #[.int .u64 sb.serial, .int .i64 sb.epoch, .int .i64 sb.view, .int .i64 sb.normal, .int .i64 sb.top, .int .i64 sb.base, .int .i64 sb.area, .int .i64 sb.start, .int .u32 sb.chain] 30)); have ya : wy.cell? ⟨wx.heap.size, 0, none⟩ = some (.int .u64 sa.serial) := blk_cell HAB.out 0; have hlx := blk_lt HAB.out; clear hby))
    | (refine wpList_load_blk rfl 30 _ rfl (b := wx.heap.size) rfl _ rfl rfl (fun _ => by simp [go_sem, isAgg]) (blk_alloc HAB.out _) ?_)
    | (refine wpList_load_blk rfl 30 _ rfl (b := wy.heap.size) rfl _ rfl rfl (fun _ => by simp [go_sem, isAgg]) HB.out ?_)
    | (refine wpList_store_blk rfl 30 _ _ rfl (b := w.heap.size) rfl rfl _ rfl rfl (by simp [Value.oneCell']) (blk_alloc HXB.out _) rfl ?_; intro w9 hb9 hg9 hz9; have HB9 := Lib.hid hb9; have HG9 := Lib.hid hg9; clear hb9 hg9 hz9))
  refine bodyPost_ret (results_blk 2 3 30 rfl rfl rfl _ rfl rfl (fun _ => by simp [go_sem, isAgg]) HB9.out) rfl ⟨rfl, ?_⟩
  exact grown_bel HBB2.out HG9.out (Nat.le_refl _)
set_option maxHeartbeats 2000000 in
theorem RLoad_snd (h : OnRef X w r L cap k) (hn : 2 ≤ k.n) (hs : 72 ≤ k.size) (sa sb : Sup) (ha : k.slotS 0 = sa) (hb : k.slotS 1 = sb) (h0 : (k.slot 0).isSome = false) (h1 : (k.slot 1).isSome = true) : Calls Tryz.prog 26 #[.pointer (some ⟨r, 0, none⟩)] w fun e w' => e = .returned (.tuple #[.agg #[.int .u64 sb.serial, .int .i64 sb.epoch, .int .i64 sb.view, .int .i64 sb.normal, .int .i64 sb.top, .int .i64 sb.base, .int .i64 sb.area, .int .i64 sb.start, .int .u32 sb.chain], .int .i64 0]) ∧ Below w.heap.size w w' := by
  have HFITS := Lib.hid (fun (W : World) (hb : Below w.heap.size w W) => by have := Rfits_ok (h.below hb); rw [decide_eq_true (And.intro hn hs)] at this; exact this)
  have HS0 := Lib.hid (fun (W : World) (hw : Below w.heap.size w W) => by have := RSlot_ok (h.below hw) 0 (by omega) hn; rw [ha, h0, show sa.cells = #[.int .u64 sa.serial, .int .i64 sa.epoch, .int .i64 sa.view, .int .i64 sa.normal, .int .i64 sa.top, .int .i64 sa.base, .int .i64 sa.area, .int .i64 sa.start, .int .u32 sa.chain] from rfl] at this; exact this)
  have HS1 := Lib.hid (fun (W : World) (hw : Below w.heap.size w W) => by have := RSlot_ok (h.below hw) 1 (by omega) hn; rw [hb, h1, show sb.cells = #[.int .u64 sb.serial, .int .i64 sb.epoch, .int .i64 sb.view, .int .i64 sb.normal, .int .i64 sb.top, .int .i64 sb.base, .int .i64 sb.area, .int .i64 sb.start, .int .u32 sb.chain] from rfl] at this; exact this)
  have HB1 := Lib.hid (show Below w.heap.size w (w.alloc (.cells #[.int .u64 0, .int .i64 0, .int .i64 0, .int .i64 0, .int .i64 0, .int .i64 0, .int .i64 0, .int .i64 0, .int .u32 0] 30)) from (Below.refl _ w).alloc (Nat.le_refl _) _)
  have HX := Lib.hid (blk_new w (.cells #[.int .u64 0, .int .i64 0, .int .i64 0, .int .i64 0, .int .i64 0, .int .i64 0, .int .i64 0, .int .i64 0, .int .u32 0] 30))
  have tok1 : True := trivial
  clear h hn hs ha hb h0 h1
  go_enter Tryz.func26, Tryz.ntmps26
  go_wp2_with (first
    | (go_at_call 50; go_must (refine (HFITS.out _ HB1.out).mono ?_; rintro e wf ⟨rfl, hwf⟩; obtain rfl := hwf.symm))
    | (go_at_call 56; have _t := tok1; clear tok1; go_must (clear _t; refine (HS0.out _ HB1.out).mono ?_; rintro e wx ⟨rfl, hbx⟩; have HBA := Lib.hid (bthen HB1.out hbx); have HXA := Lib.hid (blk_below HX.out hbx); have HBA2 := Lib.hid (HBA.out.alloc HBA.out.size (.cells #[.int .u64 sa.serial, .int .i64 sa.epoch, .int .i64 sa.view, .int .i64 sa.normal, .int .i64 sa.top, .int .i64 sa.base, .int .i64 sa.area, .int .i64 sa.start, .int .u32 sa.chain] 30)); have HA := Lib.hid (blk_new wx (.cells #[.int .u64 sa.serial, .int .i64 sa.epoch, .int .i64 sa.view, .int .i64 sa.normal, .int .i64 sa.top, .int .i64 sa.base, .int .i64 sa.area, .int .i64 sa.start, .int .u32 sa.chain] 30)); have HXA2 := Lib.hid (blk_alloc HXA.out (.cells #[.int .u64 sa.serial, .int .i64 sa.epoch, .int .i64 sa.view, .int .i64 sa.normal, .int .i64 sa.top, .int .i64 sa.base, .int .i64 sa.area, .int .i64 sa.start, .int .u32 sa.chain] 30)); clear hbx))
    | (go_at_call 56; go_must (refine (HS1.out _ HBA2.out).mono ?_; rintro e wy ⟨rfl, hby⟩; have HBB := Lib.hid (bthen HBA2.out hby); have HXB := Lib.hid (blk_below HXA2.out hby); have HAB := Lib.hid (blk_below HA.out hby); have HBB2 := Lib.hid (HBB.out.alloc HBB.out.size (.cells #[.int .u64 sb.serial, .int .i64 sb.epoch, .int .i64 sb.view, .int .i64 sb.normal, .int .i64 sb.top, .int .i64 sb.base, .int .i64 sb.area, .int .i64 sb.start, .int .u32 sb.chain] 30)); have HB := Lib.hid (blk_new wy (.cells #[.int .u64 sb.serial, .int .i64 sb.epoch, .int .i64 sb.view, .int .i64 sb.normal, .int .i64 sb.top, .int .i64 sb.base, .int .i64 sb.area, .int .i64 sb.start, .int .u32 sb.chain] 30)); have ya : wy.cell? ⟨wx.heap.size, 0, none⟩ = some (.int .u64 sa.serial) := blk_cell HAB.out 0; have hlx := blk_lt HAB.out; clear hby))
    | (refine wpList_load_blk rfl 30 _ rfl (b := wx.heap.size) rfl _ rfl rfl (fun _ => by simp [go_sem, isAgg]) (blk_alloc HAB.out _) ?_)
    | (refine wpList_load_blk rfl 30 _ rfl (b := wy.heap.size) rfl _ rfl rfl (fun _ => by simp [go_sem, isAgg]) HB.out ?_)
    | (refine wpList_store_blk rfl 30 _ _ rfl (b := w.heap.size) rfl rfl _ rfl rfl (by simp [Value.oneCell']) (blk_alloc HXB.out _) rfl ?_; intro w9 hb9 hg9 hz9; have HB9 := Lib.hid hb9; have HG9 := Lib.hid hg9; clear hb9 hg9 hz9))
  refine bodyPost_ret (results_blk 2 3 30 rfl rfl rfl _ rfl rfl (fun _ => by simp [go_sem, isAgg]) HB9.out) rfl ⟨rfl, ?_⟩
  exact grown_bel HBB2.out HG9.out (Nat.le_refl _)
set_option maxHeartbeats 2000000 in
theorem RLoad_gt (h : OnRef X w r L cap k) (hn : 2 ≤ k.n) (hs : 72 ≤ k.size) (sa sb : Sup) (ha : k.slotS 0 = sa) (hb : k.slotS 1 = sb) (h0 : (k.slot 0).isSome = true) (h1 : (k.slot 1).isSome = true) (hc : (sb.serial : Int) < (sa.serial : Int)) : Calls Tryz.prog 26 #[.pointer (some ⟨r, 0, none⟩)] w fun e w' => e = .returned (.tuple #[.agg #[.int .u64 sa.serial, .int .i64 sa.epoch, .int .i64 sa.view, .int .i64 sa.normal, .int .i64 sa.top, .int .i64 sa.base, .int .i64 sa.area, .int .i64 sa.start, .int .u32 sa.chain], .int .i64 0]) ∧ Below w.heap.size w w' := by
  have HFITS := Lib.hid (fun (W : World) (hb : Below w.heap.size w W) => by have := Rfits_ok (h.below hb); rw [decide_eq_true (And.intro hn hs)] at this; exact this)
  have HS0 := Lib.hid (fun (W : World) (hw : Below w.heap.size w W) => by have := RSlot_ok (h.below hw) 0 (by omega) hn; rw [ha, h0, show sa.cells = #[.int .u64 sa.serial, .int .i64 sa.epoch, .int .i64 sa.view, .int .i64 sa.normal, .int .i64 sa.top, .int .i64 sa.base, .int .i64 sa.area, .int .i64 sa.start, .int .u32 sa.chain] from rfl] at this; exact this)
  have HS1 := Lib.hid (fun (W : World) (hw : Below w.heap.size w W) => by have := RSlot_ok (h.below hw) 1 (by omega) hn; rw [hb, h1, show sb.cells = #[.int .u64 sb.serial, .int .i64 sb.epoch, .int .i64 sb.view, .int .i64 sb.normal, .int .i64 sb.top, .int .i64 sb.base, .int .i64 sb.area, .int .i64 sb.start, .int .u32 sb.chain] from rfl] at this; exact this)
  have HB1 := Lib.hid (show Below w.heap.size w (w.alloc (.cells #[.int .u64 0, .int .i64 0, .int .i64 0, .int .i64 0, .int .i64 0, .int .i64 0, .int .i64 0, .int .i64 0, .int .u32 0] 30)) from (Below.refl _ w).alloc (Nat.le_refl _) _)
  have HX := Lib.hid (blk_new w (.cells #[.int .u64 0, .int .i64 0, .int .i64 0, .int .i64 0, .int .i64 0, .int .i64 0, .int .i64 0, .int .i64 0, .int .u32 0] 30))
  have tok1 : True := trivial
  clear h hn hs ha hb h0 h1
  go_enter Tryz.func26, Tryz.ntmps26
  go_wp2_with (first
    | (go_at_call 50; go_must (refine (HFITS.out _ HB1.out).mono ?_; rintro e wf ⟨rfl, hwf⟩; obtain rfl := hwf.symm))
    | (go_at_call 56; have _t := tok1; clear tok1; go_must (clear _t; refine (HS0.out _ HB1.out).mono ?_; rintro e wx ⟨rfl, hbx⟩; have HBA := Lib.hid (bthen HB1.out hbx); have HXA := Lib.hid (blk_below HX.out hbx); have HBA2 := Lib.hid (HBA.out.alloc HBA.out.size (.cells #[.int .u64 sa.serial, .int .i64 sa.epoch, .int .i64 sa.view, .int .i64 sa.normal, .int .i64 sa.top, .int .i64 sa.base, .int .i64 sa.area, .int .i64 sa.start, .int .u32 sa.chain] 30)); have HA := Lib.hid (blk_new wx (.cells #[.int .u64 sa.serial, .int .i64 sa.epoch, .int .i64 sa.view, .int .i64 sa.normal, .int .i64 sa.top, .int .i64 sa.base, .int .i64 sa.area, .int .i64 sa.start, .int .u32 sa.chain] 30)); have HXA2 := Lib.hid (blk_alloc HXA.out (.cells #[.int .u64 sa.serial, .int .i64 sa.epoch, .int .i64 sa.view, .int .i64 sa.normal, .int .i64 sa.top, .int .i64 sa.base, .int .i64 sa.area, .int .i64 sa.start, .int .u32 sa.chain] 30)); clear hbx))
    | (go_at_call 56; go_must (refine (HS1.out _ HBA2.out).mono ?_; rintro e wy ⟨rfl, hby⟩; have HBB := Lib.hid (bthen HBA2.out hby); have HXB := Lib.hid (blk_below HXA2.out hby); have HAB := Lib.hid (blk_below HA.out hby); have HBB2 := Lib.hid (HBB.out.alloc HBB.out.size (.cells #[.int .u64 sb.serial, .int .i64 sb.epoch, .int .i64 sb.view, .int .i64 sb.normal, .int .i64 sb.top, .int .i64 sb.base, .int .i64 sb.area, .int .i64 sb.start, .int .u32 sb.chain] 30)); have HB := Lib.hid (blk_new wy (.cells #[.int .u64 sb.serial, .int .i64 sb.epoch, .int .i64 sb.view, .int .i64 sb.normal, .int .i64 sb.top, .int .i64 sb.base, .int .i64 sb.area, .int .i64 sb.start, .int .u32 sb.chain] 30)); have ya : wy.cell? ⟨wx.heap.size, 0, none⟩ = some (.int .u64 sa.serial) := blk_cell HAB.out 0; have hlx := blk_lt HAB.out; clear hby))
    | (refine wpList_load_blk rfl 30 _ rfl (b := wx.heap.size) rfl _ rfl rfl (fun _ => by simp [go_sem, isAgg]) (blk_alloc HAB.out _) ?_)
    | (refine wpList_load_blk rfl 30 _ rfl (b := wy.heap.size) rfl _ rfl rfl (fun _ => by simp [go_sem, isAgg]) HB.out ?_)
    | (refine wpList_store_blk rfl 30 _ _ rfl (b := w.heap.size) rfl rfl _ rfl rfl (by simp [Value.oneCell']) (blk_alloc HXB.out _) rfl ?_; intro w9 hb9 hg9 hz9; have HB9 := Lib.hid hb9; have HG9 := Lib.hid hg9; clear hb9 hg9 hz9))
  refine bodyPost_ret (results_blk 2 3 30 rfl rfl rfl _ rfl rfl (fun _ => by simp [go_sem, isAgg]) HB9.out) rfl ⟨rfl, ?_⟩
  exact grown_bel HBB2.out HG9.out (Nat.le_refl _)
set_option maxHeartbeats 2000000 in
theorem RLoad_lt (h : OnRef X w r L cap k) (hn : 2 ≤ k.n) (hs : 72 ≤ k.size) (sa sb : Sup) (ha : k.slotS 0 = sa) (hb : k.slotS 1 = sb) (h0 : (k.slot 0).isSome = true) (h1 : (k.slot 1).isSome = true) (hc : ¬ (sb.serial : Int) < (sa.serial : Int)) : Calls Tryz.prog 26 #[.pointer (some ⟨r, 0, none⟩)] w fun e w' => e = .returned (.tuple #[.agg #[.int .u64 sb.serial, .int .i64 sb.epoch, .int .i64 sb.view, .int .i64 sb.normal, .int .i64 sb.top, .int .i64 sb.base, .int .i64 sb.area, .int .i64 sb.start, .int .u32 sb.chain], .int .i64 0]) ∧ Below w.heap.size w w' := by
  have HFITS := Lib.hid (fun (W : World) (hb : Below w.heap.size w W) => by have := Rfits_ok (h.below hb); rw [decide_eq_true (And.intro hn hs)] at this; exact this)
  have HS0 := Lib.hid (fun (W : World) (hw : Below w.heap.size w W) => by have := RSlot_ok (h.below hw) 0 (by omega) hn; rw [ha, h0, show sa.cells = #[.int .u64 sa.serial, .int .i64 sa.epoch, .int .i64 sa.view, .int .i64 sa.normal, .int .i64 sa.top, .int .i64 sa.base, .int .i64 sa.area, .int .i64 sa.start, .int .u32 sa.chain] from rfl] at this; exact this)
  have HS1 := Lib.hid (fun (W : World) (hw : Below w.heap.size w W) => by have := RSlot_ok (h.below hw) 1 (by omega) hn; rw [hb, h1, show sb.cells = #[.int .u64 sb.serial, .int .i64 sb.epoch, .int .i64 sb.view, .int .i64 sb.normal, .int .i64 sb.top, .int .i64 sb.base, .int .i64 sb.area, .int .i64 sb.start, .int .u32 sb.chain] from rfl] at this; exact this)
  have HB1 := Lib.hid (show Below w.heap.size w (w.alloc (.cells #[.int .u64 0, .int .i64 0, .int .i64 0, .int .i64 0, .int .i64 0, .int .i64 0, .int .i64 0, .int .i64 0, .int .u32 0] 30)) from (Below.refl _ w).alloc (Nat.le_refl _) _)
  have HX := Lib.hid (blk_new w (.cells #[.int .u64 0, .int .i64 0, .int .i64 0, .int .i64 0, .int .i64 0, .int .i64 0, .int .i64 0, .int .i64 0, .int .u32 0] 30))
  have tok1 : True := trivial
  clear h hn hs ha hb h0 h1
  go_enter Tryz.func26, Tryz.ntmps26
  go_wp2_with (first
    | (go_at_call 50; go_must (refine (HFITS.out _ HB1.out).mono ?_; rintro e wf ⟨rfl, hwf⟩; obtain rfl := hwf.symm))
    | (go_at_call 56; have _t := tok1; clear tok1; go_must (clear _t; refine (HS0.out _ HB1.out).mono ?_; rintro e wx ⟨rfl, hbx⟩; have HBA := Lib.hid (bthen HB1.out hbx); have HXA := Lib.hid (blk_below HX.out hbx); have HBA2 := Lib.hid (HBA.out.alloc HBA.out.size (.cells #[.int .u64 sa.serial, .int .i64 sa.epoch, .int .i64 sa.view, .int .i64 sa.normal, .int .i64 sa.top, .int .i64 sa.base, .int .i64 sa.area, .int .i64 sa.start, .int .u32 sa.chain] 30)); have HA := Lib.hid (blk_new wx (.cells #[.int .u64 sa.serial, .int .i64 sa.epoch, .int .i64 sa.view, .int .i64 sa.normal, .int .i64 sa.top, .int .i64 sa.base, .int .i64 sa.area, .int .i64 sa.start, .int .u32 sa.chain] 30)); have HXA2 := Lib.hid (blk_alloc HXA.out (.cells #[.int .u64 sa.serial, .int .i64 sa.epoch, .int .i64 sa.view, .int .i64 sa.normal, .int .i64 sa.top, .int .i64 sa.base, .int .i64 sa.area, .int .i64 sa.start, .int .u32 sa.chain] 30)); clear hbx))
    | (go_at_call 56; go_must (refine (HS1.out _ HBA2.out).mono ?_; rintro e wy ⟨rfl, hby⟩; have HBB := Lib.hid (bthen HBA2.out hby); have HXB := Lib.hid (blk_below HXA2.out hby); have HAB := Lib.hid (blk_below HA.out hby); have HBB2 := Lib.hid (HBB.out.alloc HBB.out.size (.cells #[.int .u64 sb.serial, .int .i64 sb.epoch, .int .i64 sb.view, .int .i64 sb.normal, .int .i64 sb.top, .int .i64 sb.base, .int .i64 sb.area, .int .i64 sb.start, .int .u32 sb.chain] 30)); have HB := Lib.hid (blk_new wy (.cells #[.int .u64 sb.serial, .int .i64 sb.epoch, .int .i64 sb.view, .int .i64 sb.normal, .int .i64 sb.top, .int .i64 sb.base, .int .i64 sb.area, .int .i64 sb.start, .int .u32 sb.chain] 30)); have ya : wy.cell? ⟨wx.heap.size, 0, none⟩ = some (.int .u64 sa.serial) := blk_cell HAB.out 0; have hlx := blk_lt HAB.out; clear hby))
    | (refine wpList_load_blk rfl 30 _ rfl (b := wx.heap.size) rfl _ rfl rfl (fun _ => by simp [go_sem, isAgg]) (blk_alloc HAB.out _) ?_)
    | (refine wpList_load_blk rfl 30 _ rfl (b := wy.heap.size) rfl _ rfl rfl (fun _ => by simp [go_sem, isAgg]) HB.out ?_)
    | (refine wpList_store_blk rfl 30 _ _ rfl (b := w.heap.size) rfl rfl _ rfl rfl (by simp [Value.oneCell']) (blk_alloc HXB.out _) rfl ?_; intro w9 hb9 hg9 hz9; have HB9 := Lib.hid hb9; have HG9 := Lib.hid hg9; clear hb9 hg9 hz9))
  refine bodyPost_ret (results_blk 2 3 30 rfl rfl rfl _ rfl rfl (fun _ => by simp [go_sem, isAgg]) HB9.out) rfl ⟨rfl, ?_⟩
  exact grown_bel HBB2.out HG9.out (Nat.le_refl _)
theorem RLoad_ok (h : OnRef X w r L cap k) (hn : 2 ≤ k.n) (hs : 72 ≤ k.size) : Calls Tryz.prog 26 #[.pointer (some ⟨r, 0, none⟩)] w (RetS w (k.loadSt 2)) := by
  have e : k.loadSt 2 = better (better (Sup.zero, 91) (k.slot 0)) (k.slot 1) := rfl
  rw [e]
  rcases Bool.eq_false_or_eq_true (k.slot 0).isSome with h0 | h0 <;> rcases Bool.eq_false_or_eq_true (k.slot 1).isSome with h1 | h1
  · rw [slot_is h0, slot_is h1]
    have p0 := slot_parity (slot_is h0)
    have p1 := slot_parity (slot_is h1)
    have e2 : better (Sup.zero, 91) (some (k.slotS 0)) = (k.slotS 0, 0) := by
      unfold better
      simp only
      rw [if_pos (Or.inl (by simp))]
    rw [e2]
    by_cases hc : ((k.slotS 1).serial : Int) < ((k.slotS 0).serial : Int)
    · rw [show better (k.slotS 0, 0) (some (k.slotS 1)) = (k.slotS 0, 0) from by unfold better; simp only; rw [if_neg (by simp; omega)]]
      exact RLoad_gt h hn hs _ _ rfl rfl h0 h1 hc
    · rw [show better (k.slotS 0, 0) (some (k.slotS 1)) = (k.slotS 1, 0) from by unfold better; simp only; rw [if_pos (Or.inr (by omega))]]
      exact RLoad_lt h hn hs _ _ rfl rfl h0 h1 hc
  · rw [slot_is h0, slot_isnt h1]
    exact RLoad_fst h hn hs _ _ rfl rfl h0 h1
  · rw [slot_isnt h0, slot_is h1]
    exact RLoad_snd h hn hs _ _ rfl rfl h0 h1
  · rw [slot_isnt h0, slot_isnt h1]
    exact RLoad_none h hn hs _ _ rfl rfl h0 h1
end
end Go.Proofs.YtaldjmhikebecaaGreat
