/- Layer 9 (super): Load. -/
import Derived.Test.YtaldjmhikebecaaGreatSave
import Derived.Test.YtaldjmhikebecaaGreatDecR
namespace Go.Proofs.YtaldjmhikebecaaGreat
open Go Go.RowKit
set_option maxRecDepth 100000
set_option linter.unusedVariables false
attribute [local go_sem] Oper.semAt_some
/-- The superblock of a slot. -/
def Dsk.slot (k : Dsk) (i : Nat) : Option Sup :=
  match k.read i 1 with
  | none => none
  | some l => if (decode l).2 = 0 ∧ (decode l).1.serial % 2 = i then some (decode l).1 else none
def better (st : Sup × Int) : Option Sup → Sup × Int
  | none => st
  | some s => if st.2 ≠ 0 ∨ st.1.serial < s.serial then (s, 0) else st
def Dsk.loadSt (k : Dsk) : Nat → Sup × Int
  | 0 => (Sup.zero, 91)
  | j + 1 => better (k.loadSt j) (k.slot j)
theorem loadSt_code (k : Dsk) (j : Nat) : (k.loadSt j).2 = 0 ∨ (k.loadSt j).2 = 91 := by
  induction j with
  | zero => exact .inr rfl
  | succ j ih =>
    simp only [Dsk.loadSt, better]
    split
    · exact ih
    · split
      · exact .inl rfl
      · exact ih
set_option maxHeartbeats 4000000 in
theorem Load_ok {w : World} {d fb lb bb c : Nat} {k : Dsk} {X : Nat → Prop} (h : OnDisk X w d fb lb bb c k) (hn : 2 ≤ k.n) (hs : 72 ≤ k.size) :
    Calls Tryz.prog 15 #[.pointer (some ⟨d, 0, none⟩)] w (RetS w (k.loadSt 2)) := by
  have hz := Lib.hid (show Sup.zero.cells = #[.int .u64 0, .int .i64 0, .int .i64 0, .int .i64 0, .int .i64 0, .int .i64 0, .int .i64 0, .int .i64 0, .int .u32 0] from rfl)
  have HMADE := Lib.hid (fun (W : World) (hb : Below w.heap.size w W) => smade_ok (h.below hb))
  have HFITS := Lib.hid (fun (W : World) (hb : Below w.heap.size w W) => by have := sfits_any (h.below hb); rw [if_pos ⟨hn, hs⟩] at this; exact this)
  have HREAD := Lib.hid (fun (j : Nat) (hj : j < 2) (W : World) (hb : Below w.heap.size w W) => by have := Read_ok (h.below hb) j 1 (by omega); exact this)
  have hs2 := h.s2
  have b1 : Below w.heap.size w (w.alloc (.cells #[.int .u64 0, .int .i64 0, .int .i64 0, .int .i64 0, .int .i64 0, .int .i64 0, .int .i64 0, .int .i64 0, .int .u32 0] 30)) := (Below.refl _ w).alloc (Nat.le_refl _) _
  have HB1 := Lib.hid b1
  have HX := Lib.hid (blk_new w (.cells #[.int .u64 0, .int .i64 0, .int .i64 0, .int .i64 0, .int .i64 0, .int .i64 0, .int .i64 0, .int .i64 0, .int .u32 0] 30))
  clear b1 h hn hs
  go_enter Tryz.func15, Tryz.ntmps15
  go_wp2_with (first
    | (go_at_call 34; go_must (refine (HMADE.out _ HB1.out).mono ?_; rintro e w1 ⟨rfl, hb⟩; have HB2 := Lib.hid (HB1.out.trans (hb.mono HB1.out.size)); have HX2 := Lib.hid (blk_below HX.out hb); clear hb))
    | (go_at_call 36; go_must (refine (HFITS.out _ HB2.out).mono ?_; rintro e w3 ⟨rfl, hb⟩; have HB3 := Lib.hid (HB2.out.trans (hb.mono HB2.out.size)); have HX3 := Lib.hid (blk_below HX2.out hb); clear hb)))
  have HB4 := Lib.hid (HB3.out.alloc HB3.out.size (.cells #[.int .u64 0, .int .i64 0, .int .i64 0, .int .i64 0, .int .i64 0, .int .i64 0, .int .i64 0, .int .i64 0, .int .u32 0] 30))
  have HX4 := Lib.hid (blk_alloc HX3.out (.cells #[.int .u64 0, .int .i64 0, .int .i64 0, .int .i64 0, .int .i64 0, .int .i64 0, .int .i64 0, .int .i64 0, .int .u32 0] 30))
  have HY4 := Lib.hid (blk_new w3 (.cells #[.int .u64 0, .int .i64 0, .int .i64 0, .int .i64 0, .int .i64 0, .int .i64 0, .int .i64 0, .int .i64 0, .int .u32 0] 30))
  have hlt : w.heap.size < w3.heap.size := blk_lt HX3.out
  have HLT := Lib.hid hlt
  clear hlt
  go_loopw [6, 21] (fun u i' wr => ∃ (j : Nat) (st : Sup × Int), j ≤ 2 ∧ i' = .int .i64 (j : Int) ∧ u = .int .i64 st.2 ∧ Hid (st = k.loadSt j) ∧ Hid (wr.heap[w.heap.size]? = some (.cells #[.int .u64 0, .int .i64 0, .int .i64 0, .int .i64 0, .int .i64 0, .int .i64 0, .int .i64 0, .int .i64 0, .int .u32 0] 30 (0, 0))) ∧ Hid (wr.heap[w3.heap.size]? = some (.cells st.1.cells 30 (0, 0))) ∧ Hid (Below w.heap.size w wr)) (fun _ i' _ => 2 - (intOf i').toNat)
  case atStart => exact ⟨0, (Sup.zero, 91), Nat.zero_le _, rfl, rfl, Lib.hid rfl, HX4, Lib.hid (by rw [hz.out]; exact HY4.out), HB4⟩
  case round =>
    obtain ⟨j, ⟨best, f⟩, hj, rfl, rfl, hst, hx, hy, hb⟩ := hrel
    by_cases hlt : j < 2
    · have hfc : f = 0 ∨ f = 91 := by have := loadSt_code k j; rw [← hst.out] at this; exact this
      have hread := HREAD.out j hlt wr hb.out
      cases hrd : k.read j 1 with
      | none =>
        unfold RetRead at hread
        rw [hrd] at hread
        have HR := Lib.hid hread
        have HNX := Lib.hid (show (best, f) = k.loadSt (j + 1) from by simp only [Dsk.loadSt]; rw [← hst.out, Dsk.slot, hrd]; rfl)
        clear hread hrd hfc
        go_wp2_with (go_at_call 45; go_must (refine HR.out.mono ?_; rintro e wx ⟨rfl, hbx⟩; have HX9 := Lib.hid (blk_below hx.out hbx); have HY9 := Lib.hid (blk_below hy.out hbx); have HB9 := Lib.hid (hb.out.trans (hbx.mono hb.out.size)); clear hbx))
        go_roundw
        case rel => exact ⟨j + 1, (best, f), by omega, by go_num, rfl, HNX, HX9, HY9, HB9⟩
        case measure => simp [intOf]; omega
      | some l =>
        unfold RetRead at hread
        rw [hrd] at hread
        simp only [Nat.one_mul] at hread
        have HR := Lib.hid hread
        have HDEC := Lib.hid (fun (A : Option Addr) (c' : Nat) (W : World) (hb : Bs W A k.size c' l) => Decode_any A k.size c' l W hb)
        have hslot : k.slot j = if (decode l).2 = 0 ∧ (decode l).1.serial % 2 = j then some (decode l).1 else none := by rw [Dsk.slot, hrd]
        have hnx : k.loadSt (j + 1) = better (best, f) (if (decode l).2 = 0 ∧ (decode l).1.serial % 2 = j then some (decode l).1 else none) := by simp only [Dsk.loadSt]; rw [← hst.out, hslot]
        clear hread hrd hslot
        obtain ⟨⟨sd, sc⟩, hdc⟩ : ∃ x, x = decode l := ⟨_, rfl⟩
        rw [← hdc] at hnx HDEC
        clear hdc
        simp only at hnx
        unfold RetS at HDEC
        have hsd := Lib.hid (show sd.cells = #[.int .u64 sd.serial, .int .i64 sd.epoch, .int .i64 sd.view, .int .i64 sd.normal, .int .i64 sd.top, .int .i64 sd.base, .int .i64 sd.area, .int .i64 sd.start, .int .u32 sd.chain] from rfl)
        have hbc := Lib.hid (show best.cells = #[.int .u64 best.serial, .int .i64 best.epoch, .int .i64 best.view, .int .i64 best.normal, .int .i64 best.top, .int .i64 best.base, .int .i64 best.area, .int .i64 best.start, .int .u32 best.chain] from rfl)
        simp only [hsd.out] at HDEC
        have HY := Lib.hid hy.out
        simp only [hbc.out] at HY
        by_cases hcode : sc = 0
        · subst hcode
          by_cases hpar : sd.serial % 2 = j
          · rw [if_pos ⟨rfl, hpar⟩] at hnx
            have hp : (((sd.serial : Int) % 2) == (j : Int)) = true := by rw [beq_iff_eq]; omega
            rcases hfc with rfl | rfl
            · by_cases hcmp : best.serial < sd.serial
              · have HNX := Lib.hid (show (sd, 0) = k.loadSt (j + 1) from by rw [hnx, better, if_pos (.inr hcmp)])
                have hc2 : (best.serial : Int) < sd.serial := by omega
                clear hnx hpar hcmp
                go_wp2_with (first
                  | (go_at_call 45; go_must (refine HR.out.mono ?_; rintro e wx ⟨A2, c2, rfl, ho, hbx⟩; have HO := Lib.hid ho; have HX9 := Lib.hid (blk_below hx.out hbx); have HY9 := Lib.hid (blk_below HY.out hbx); have HB9 := Lib.hid (hb.out.trans (hbx.mono hb.out.size)); clear ho hbx))
                  | (go_at_call 46; go_must (refine (HDEC.out A2 c2 _ (Bs.of_own HO.out)).mono ?_; rintro e wy ⟨rfl, hbx⟩; have HX8 := Lib.hid (blk_below HX9.out hbx); have HY8 := Lib.hid (blk_below HY9.out hbx); have HB8 := Lib.hid (HB9.out.trans (hbx.mono HB9.out.size)); clear hbx; have y0 : wy.cell? ⟨w3.heap.size, 0, none⟩ = some (.int .u64 best.serial) := blk_cell HY8.out 0; have hlt2 := blk_lt HY8.out; have HN8 := Lib.hid (blk_new wy (.cells #[.int .u64 sd.serial, .int .i64 sd.epoch, .int .i64 sd.view, .int .i64 sd.normal, .int .i64 sd.top, .int .i64 sd.base, .int .i64 sd.area, .int .i64 sd.start, .int .u32 sd.chain] 30))))
                  | (refine wpList_load_blk rfl 30 _ rfl (b := wy.heap.size) rfl _ rfl rfl (fun _ => by simp [go_sem, isAgg]) HN8.out ?_)
                  | (refine wpList_store_blk rfl 30 _ _ rfl (b := w3.heap.size) rfl rfl _ rfl rfl (by simp [Value.oneCell']) (blk_alloc HY8.out _) rfl ?_; intro w9 hb9 hg9 hz9; have HB9' := Lib.hid hb9; have HG9 := Lib.hid hg9; clear hb9 hg9 hz9))
                go_roundw
                case rel =>
                  exact ⟨j + 1, (sd, 0), by omega, by go_num, rfl, HNX, Lib.hid ((HG9.out.block _ (by have := blk_lt HX8.out; simp; omega) (by have := HLT.out; simp; omega)).trans (blk_alloc HX8.out _)), Lib.hid (by rw [hsd.out]; exact HB9'.out), Lib.hid (grown_bel (HB8.out.alloc HB8.out.size _) HG9.out (by have := HLT.out; omega))⟩
                case measure => simp [intOf]; omega
              · have HNX := Lib.hid (show (best, 0) = k.loadSt (j + 1) from by rw [hnx, better, if_neg (by simp; omega)])
                have hc2 : ¬ (best.serial : Int) < sd.serial := by omega
                clear hnx hpar hcmp
                go_wp2_with (first
                  | (go_at_call 45; go_must (refine HR.out.mono ?_; rintro e wx ⟨A2, c2, rfl, ho, hbx⟩; have HO := Lib.hid ho; have HX9 := Lib.hid (blk_below hx.out hbx); have HY9 := Lib.hid (blk_below HY.out hbx); have HB9 := Lib.hid (hb.out.trans (hbx.mono hb.out.size)); clear ho hbx))
                  | (go_at_call 46; go_must (refine (HDEC.out A2 c2 _ (Bs.of_own HO.out)).mono ?_; rintro e wy ⟨rfl, hbx⟩; have HX8 := Lib.hid (blk_below HX9.out hbx); have HY8 := Lib.hid (blk_below HY9.out hbx); have HB8 := Lib.hid (HB9.out.trans (hbx.mono HB9.out.size)); clear hbx; have y0 : wy.cell? ⟨w3.heap.size, 0, none⟩ = some (.int .u64 best.serial) := blk_cell HY8.out 0; have hlt2 := blk_lt HY8.out; have HN8 := Lib.hid (blk_new wy (.cells #[.int .u64 sd.serial, .int .i64 sd.epoch, .int .i64 sd.view, .int .i64 sd.normal, .int .i64 sd.top, .int .i64 sd.base, .int .i64 sd.area, .int .i64 sd.start, .int .u32 sd.chain] 30))))
                  | (refine wpList_load_blk rfl 30 _ rfl (b := wy.heap.size) rfl _ rfl rfl (fun _ => by simp [go_sem, isAgg]) HN8.out ?_)
                  | (refine wpList_store_blk rfl 30 _ _ rfl (b := w3.heap.size) rfl rfl _ rfl rfl (by simp [Value.oneCell']) (blk_alloc HY8.out _) rfl ?_; intro w9 hb9 hg9 hz9; have HB9' := Lib.hid hb9; have HG9 := Lib.hid hg9; clear hb9 hg9 hz9))
                go_roundw
                case rel =>
                  exact ⟨j + 1, (best, 0), by omega, by go_num, rfl, HNX, Lib.hid (blk_alloc HX8.out _), Lib.hid (by rw [hbc.out]; exact blk_alloc HY8.out _), Lib.hid (HB8.out.alloc HB8.out.size _)⟩
                case measure => simp [intOf]; omega
            · have HNX := Lib.hid (show (sd, 0) = k.loadSt (j + 1) from by rw [hnx, better, if_pos (.inl (by simp))])
              clear hnx hpar
              go_wp2_with (first
                | (go_at_call 45; go_must (refine HR.out.mono ?_; rintro e wx ⟨A2, c2, rfl, ho, hbx⟩; have HO := Lib.hid ho; have HX9 := Lib.hid (blk_below hx.out hbx); have HY9 := Lib.hid (blk_below HY.out hbx); have HB9 := Lib.hid (hb.out.trans (hbx.mono hb.out.size)); clear ho hbx))
                | (go_at_call 46; go_must (refine (HDEC.out A2 c2 _ (Bs.of_own HO.out)).mono ?_; rintro e wy ⟨rfl, hbx⟩; have HX8 := Lib.hid (blk_below HX9.out hbx); have HY8 := Lib.hid (blk_below HY9.out hbx); have HB8 := Lib.hid (HB9.out.trans (hbx.mono HB9.out.size)); clear hbx; have y0 : wy.cell? ⟨w3.heap.size, 0, none⟩ = some (.int .u64 best.serial) := blk_cell HY8.out 0; have hlt2 := blk_lt HY8.out; have HN8 := Lib.hid (blk_new wy (.cells #[.int .u64 sd.serial, .int .i64 sd.epoch, .int .i64 sd.view, .int .i64 sd.normal, .int .i64 sd.top, .int .i64 sd.base, .int .i64 sd.area, .int .i64 sd.start, .int .u32 sd.chain] 30))))
                | (refine wpList_load_blk rfl 30 _ rfl (b := wy.heap.size) rfl _ rfl rfl (fun _ => by simp [go_sem, isAgg]) HN8.out ?_)
                | (refine wpList_store_blk rfl 30 _ _ rfl (b := w3.heap.size) rfl rfl _ rfl rfl (by simp [Value.oneCell']) (blk_alloc HY8.out _) rfl ?_; intro w9 hb9 hg9 hz9; have HB9' := Lib.hid hb9; have HG9 := Lib.hid hg9; clear hb9 hg9 hz9))
              go_roundw
              case rel =>
                exact ⟨j + 1, (sd, 0), by omega, by go_num, rfl, HNX, Lib.hid ((HG9.out.block _ (by have := blk_lt HX8.out; simp; omega) (by have := HLT.out; simp; omega)).trans (blk_alloc HX8.out _)), Lib.hid (by rw [hsd.out]; exact HB9'.out), Lib.hid (grown_bel (HB8.out.alloc HB8.out.size _) HG9.out (by have := HLT.out; omega))⟩
              case measure => simp [intOf]; omega
          · rw [if_neg (fun h => hpar h.2)] at hnx
            have HNX := Lib.hid (show (best, f) = k.loadSt (j + 1) from by rw [hnx]; rfl)
            have hp : (((sd.serial : Int) % 2) == (j : Int)) = false := by rw [beq_eq_false_iff_ne]; omega
            clear hnx hpar hfc
            go_wp2_with (first
              | (go_at_call 45; go_must (refine HR.out.mono ?_; rintro e wx ⟨A2, c2, rfl, ho, hbx⟩; have HO := Lib.hid ho; have HX9 := Lib.hid (blk_below hx.out hbx); have HY9 := Lib.hid (blk_below HY.out hbx); have HB9 := Lib.hid (hb.out.trans (hbx.mono hb.out.size)); clear ho hbx))
              | (go_at_call 46; go_must (refine (HDEC.out A2 c2 _ (Bs.of_own HO.out)).mono ?_; rintro e wy ⟨rfl, hbx⟩; have HX8 := Lib.hid (blk_below HX9.out hbx); have HY8 := Lib.hid (blk_below HY9.out hbx); have HB8 := Lib.hid (HB9.out.trans (hbx.mono HB9.out.size)); clear hbx; have y0 : wy.cell? ⟨w3.heap.size, 0, none⟩ = some (.int .u64 best.serial) := blk_cell HY8.out 0; have hlt2 := blk_lt HY8.out; have HN8 := Lib.hid (blk_new wy (.cells #[.int .u64 sd.serial, .int .i64 sd.epoch, .int .i64 sd.view, .int .i64 sd.normal, .int .i64 sd.top, .int .i64 sd.base, .int .i64 sd.area, .int .i64 sd.start, .int .u32 sd.chain] 30)))))
            go_roundw
            case rel =>
              exact ⟨j + 1, (best, f), by omega, by go_num, rfl, HNX, Lib.hid (blk_alloc HX8.out _), Lib.hid (by rw [hbc.out]; exact blk_alloc HY8.out _), Lib.hid (HB8.out.alloc HB8.out.size _)⟩
            case measure => simp [intOf]; omega
        · rw [if_neg (fun h => hcode h.1)] at hnx
          have HNX := Lib.hid (show (best, f) = k.loadSt (j + 1) from by rw [hnx]; rfl)
          have hc0 : (sc == 0) = false := by rw [beq_eq_false_iff_ne]; exact hcode
          clear hcode hnx hfc
          go_wp2_with (first
            | (go_at_call 45; go_must (refine HR.out.mono ?_; rintro e wx ⟨A2, c2, rfl, ho, hbx⟩; have HO := Lib.hid ho; have HX9 := Lib.hid (blk_below hx.out hbx); have HY9 := Lib.hid (blk_below HY.out hbx); have HB9 := Lib.hid (hb.out.trans (hbx.mono hb.out.size)); clear ho hbx))
            | (go_at_call 46; go_must (refine (HDEC.out A2 c2 _ (Bs.of_own HO.out)).mono ?_; rintro e wy ⟨rfl, hbx⟩; have HX8 := Lib.hid (blk_below HX9.out hbx); have HY8 := Lib.hid (blk_below HY9.out hbx); have HB8 := Lib.hid (HB9.out.trans (hbx.mono HB9.out.size)); clear hbx; have y0 : wy.cell? ⟨w3.heap.size, 0, none⟩ = some (.int .u64 best.serial) := blk_cell HY8.out 0; have hlt2 := blk_lt HY8.out; have HN8 := Lib.hid (blk_new wy (.cells #[.int .u64 sd.serial, .int .i64 sd.epoch, .int .i64 sd.view, .int .i64 sd.normal, .int .i64 sd.top, .int .i64 sd.base, .int .i64 sd.area, .int .i64 sd.start, .int .u32 sd.chain] 30)))))
          go_roundw
          case rel =>
            exact ⟨j + 1, (best, f), by omega, by go_num, rfl, HNX, Lib.hid (blk_alloc HX8.out _), Lib.hid (by rw [hbc.out]; exact blk_alloc HY8.out _), Lib.hid (HB8.out.alloc HB8.out.size _)⟩
          case measure => simp [intOf]; omega
    · obtain rfl : j = 2 := by omega
      have hbc := Lib.hid (show best.cells = #[.int .u64 best.serial, .int .i64 best.epoch, .int .i64 best.view, .int .i64 best.normal, .int .i64 best.top, .int .i64 best.base, .int .i64 best.area, .int .i64 best.start, .int .u32 best.chain] from rfl)
      have HY := Lib.hid hy.out
      simp only [hbc.out] at HY
      go_wp2_with (first
        | (refine wpList_load_blk rfl 30 _ rfl (b := w3.heap.size) rfl _ rfl rfl (fun _ => by simp [go_sem, isAgg]) HY.out ?_)
        | (refine wpList_store_blk rfl 30 _ _ rfl (b := w.heap.size) rfl rfl _ rfl rfl (by simp [Value.oneCell']) hx.out rfl ?_; intro w9 hb9 hg9 hz9; have HB9 := Lib.hid hb9; have HG9 := Lib.hid hg9; clear hb9 hg9 hz9))
      rw [← hst.out]
      refine bodyPost_ret (results_blk 2 3 30 rfl rfl rfl _ rfl rfl (fun _ => by simp [go_sem, isAgg]) HB9.out) rfl ⟨?_, ?_⟩
      · rw [hbc.out]; rfl
      · exact grown_bel hb.out HG9.out (Nat.le_refl _)
end Go.Proofs.YtaldjmhikebecaaGreat
