/- Layer 9 (super): Save. -/
import Derived.Test.YtaldjmhikebecaaGreatWrite
import Derived.Test.YtaldjmhikebecaaGreatPad
namespace Go.Proofs.YtaldjmhikebecaaGreat
open Go Go.RowKit
set_option maxRecDepth 100000
set_option linter.unusedVariables false
attribute [local go_sem] Oper.semAt_some
/-- A superblock's bytes, as long as a sector (of at least 72 bytes, and at most 143: what stands behind is nought). -/
def padB (s : Sup) (size : Nat) : List UInt8 := supB s ++ List.replicate ((size - 72 % size) % size) 0
theorem pad_len (size : Nat) (h : 72 ≤ size) : 72 + (size - 72 % size) % size = size := by
  rcases Nat.eq_or_lt_of_le h with h | h
  · subst h; rfl
  · rw [Nat.mod_eq_of_lt h, Nat.mod_eq_of_lt (by omega)]; omega
set_option maxHeartbeats 2000000 in
theorem Save_ok {w : World} {d fb lb bb c : Nat} {k : Dsk} {X : Nat → Prop} (h : OnDisk X w d fb lb bb c k) (s : Sup) (hf : s.fit) (hok : s.ok) (hn : 2 ≤ k.n) (hs : 72 ≤ k.size) (hon : k.on) (hc : c + 1 < 1099511627776) :
    Calls Tryz.prog 12 #[.pointer (some ⟨d, 0, none⟩), .agg s.cells] w fun e w' => e = .returned (.int .i64 0) ∧ OnDisk X w' d fb lb bb (c + 1) (k.less.puts (s.serial % 2) (padB s k.size) 1) ∧ Touch (fun b => b = d ∨ b = lb) w w' := by
  have hs2 := h.s2
  have hpl := pad_len k.size hs
  have hser : s.serial < 18446744073709551616 := hf.1
  have hm2 : s.serial % 2 < 2 := Nat.mod_lt _ (by omega)
  have HD := Lib.hid h
  have HMADE := Lib.hid (fun (W : World) (hb : Below w.heap.size w W) => smade_ok (h.below hb))
  have HFITS := Lib.hid (fun (W : World) (hb : Below w.heap.size w W) => by have := sfits_any (h.below hb); rw [if_pos ⟨hn, hs⟩] at this; exact this)
  have HSHAPE := Lib.hid (fun (W : World) (hb : Below w.heap.size w W) => Shape_ok (h.below hb))
  have HENC := Lib.hid (fun (W : World) => Encode_ok s W hf hok)
  have HPAD := Lib.hid (fun (A : Option Addr) (c' : Nat) (W : World) (hb : Bs W A 72 c' (supB s)) => by have := Pad_ok A 72 c' (supB s) W hb k.size (by omega) (by omega) (by omega); rw [hpl] at this; exact this)
  have hlts := h.lts
  have HWR := Lib.hid (fun (A : Option Addr) (c' : Nat) (W : World) (hb : Below w.heap.size w W) (hbs : Bs W A k.size c' (padB s k.size)) (hA : ∀ ad, A = some ad → w.heap.size ≤ ad.block ∧ ad.block < W.heap.size) => by
    have := DWrite_ok (h.below hb) A k.size c' (padB s k.size) hbs (fun _ ad e => by have := hA ad e; omega) (s.serial % 2) 1 (by omega) (by omega) hon hc
    rw [show ((s.serial % 2 : Nat) : Int) = (s.serial : Int) % 2 from rfl] at this
    exact this)
  have b1 : Below w.heap.size w (w.alloc (.cells s.cells 30)) := (Below.refl _ w).alloc (Nat.le_refl _) _
  have HB1 := Lib.hid b1
  have HX := Lib.hid (blk_new w (.cells s.cells 30))
  have hcells := Lib.hid (show s.cells = #[.int .u64 s.serial, .int .i64 s.epoch, .int .i64 s.view, .int .i64 s.normal, .int .i64 s.top, .int .i64 s.base, .int .i64 s.area, .int .i64 s.start, .int .u32 s.chain] from rfl)
  rw [hcells.out] at HB1 HX HENC ⊢
  clear b1 h hf hok hn hs hon hc
  clear hpl
  go_enter Tryz.func12, Tryz.ntmps12
  go_wp2_with (first
    | (go_at_call 34; go_must (refine (HMADE.out _ HB1.out).mono ?_; rintro e w1 ⟨rfl, hb⟩; have HB2 := Lib.hid (HB1.out.trans (hb.mono HB1.out.size)); have HX2 := Lib.hid (blk_below HX.out hb); clear hb))
    | (refine wpList_load_blk rfl 30 _ rfl (b := w.heap.size) rfl _ rfl rfl (fun _ => by simp [go_sem, isAgg]) HX2.out ?_)
    | (go_at_call 35; go_must (refine (HENC.out _).mono ?_; rintro e w2 ⟨A2, c2, rfl, ho, hb⟩; have HO := Lib.hid ho; have HB3 := Lib.hid (HB2.out.trans (hb.mono HB2.out.size)); have HX3 := Lib.hid (blk_below HX2.out hb); clear ho hb))
    | (go_at_call 36; go_must (refine (HFITS.out _ HB3.out).mono ?_; rintro e w3 ⟨rfl, hb⟩; have HO2 := Lib.hid (own_below HO.out hb); have HB4 := Lib.hid (HB3.out.trans (hb.mono HB3.out.size)); have HX4 := Lib.hid (blk_below HX3.out hb); clear hb))
    | (go_at_call 37; go_must (refine (HSHAPE.out _ HB4.out).mono ?_; rintro e w4 ⟨rfl, hb⟩; have HO3 := Lib.hid (own_below HO2.out hb); have HB5 := Lib.hid (HB4.out.trans (hb.mono HB4.out.size)); have HX5 := Lib.hid (blk_below HX4.out hb); clear hb))
    | (go_at_call 38; go_must (refine (HPAD.out _ _ _ (Bs.of_own HO3.out)).mono ?_; rintro e w5 ⟨A5, c5, rfl, ho, hb⟩; have HO4 := Lib.hid ho; have HB6 := Lib.hid (HB5.out.trans (hb.mono HB5.out.size)); have HX6 := Lib.hid (blk_below HX5.out hb); clear ho hb; have hx0 : w5.cell? ⟨w.heap.size, 0, none⟩ = some (.int .u64 s.serial) := blk_cell HX6.out 0; have hA5 := Lib.hid (fun ad (e : A5 = some ad) => show w.heap.size ≤ ad.block ∧ ad.block < w5.heap.size from by subst e; have := own_base HO4.out ad.block rfl; have := HB5.out.size; omega)))
    | (go_at_call 39; go_must (refine (HWR.out _ _ _ HB6.out (Bs.of_own HO4.out) hA5.out).mono ?_; rintro e w6 ⟨rfl, hd, ht⟩; have HDK := Lib.hid hd; have HT := Lib.hid ht; clear hd ht)))
  go_ret
  exact ⟨rfl, HDK.out, (Touch.of_below HB6.out).trans HT.out⟩
end Go.Proofs.YtaldjmhikebecaaGreat
