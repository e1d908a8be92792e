/- SuperBack: its walk. -/
import Derived.Test.YtaldjmhikebecaaAwake
namespace Go.Proofs.Ytaldjmhikebecaa
open Go Go.RowKit
set_option maxRecDepth 100000
set_option linter.unusedVariables false
attribute [local go_sem] Oper.semAt_some eq_nil_bytes
def RetTrue (w : World) (e : Ending) (w' : World) : Prop := e = .returned (.bool true) ∧ Below w.heap.size w w'
set_option maxHeartbeats 1000000 in
theorem SuperBack_bad (s : Sup) (A : Option Addr) (n c : Nat) (w : World) (hok : ¬ s.ok) : Calls Try.prog 4 #[.agg s.cells, .slice A n c] w (RetTrue w) := by
  have HX := Lib.hid (blk_new w (.cells s.cells 25))
  have HB1 := Lib.hid ((Below.refl _ w).alloc (Nat.le_refl _) (.cells s.cells 25))
  have HENC := Lib.hid (fun (W : World) => Encode_bad s W hok)
  have hcells := Lib.hid (show s.cells = #[.int .u64 s.serial, .int .i64 s.epoch, .int .i64 s.view, .int .i64 s.normal, .int .i64 s.top, .int .i64 s.base, .int .i64 s.area, .int .i64 s.start, .int .u32 s.chain] from rfl)
  rw [hcells.out] at HX HB1 HENC ⊢
  go_enter Try.func4, Try.ntmps4
  go_wp2_with (first
    | (go_at_call 18; go_must (refine (awake_true _).mono ?_; rintro e w1 ⟨rfl, hb⟩; have HB2 := Lib.hid (HB1.out.trans (hb.mono HB1.out.size)); have HX2 := Lib.hid (blk_below HX.out hb); clear hb))
    | (refine wpList_load_blk rfl 25 _ rfl (b := w.heap.size) rfl _ rfl rfl (fun _ => by simp [go_sem, isAgg]) HX2.out ?_)
    | (go_at_call 12; go_must (refine (HENC.out _).mono ?_; rintro e w2 ⟨rfl, hb⟩; have HB3 := Lib.hid (HB2.out.trans (hb.mono HB2.out.size)); clear hb)))
  go_ret
  exact ⟨rfl, HB3.out⟩
set_option maxHeartbeats 1000000 in
theorem SuperBack_ok (s : Sup) (A : Option Addr) (n c : Nat) (l : List UInt8) (w : World) (hf : s.fit) (hok : s.ok) (hB : Bs w A n c l) (hn : n ≤ 140737488351232) : Calls Try.prog 4 #[.agg s.cells, .slice A n c] w (RetTrue w) := by
  have HX := Lib.hid (blk_new w (.cells s.cells 25))
  have HB1 := Lib.hid ((Below.refl _ w).alloc (Nat.le_refl _) (.cells s.cells 25))
  have HENC := Lib.hid (fun (W : World) => Encode_ok s W hf hok)
  have HDEC := Lib.hid (fun (A : Option Addr) (n c' : Nat) (W : World) (hb : Bs W A n c' (supB s ++ l)) => by
    have := Decode_any A n c' _ W hb
    rw [decode_back s hf hok l] at this
    exact this)
  have hcells := Lib.hid (show s.cells = #[.int .u64 s.serial, .int .i64 s.epoch, .int .i64 s.view, .int .i64 s.normal, .int .i64 s.top, .int .i64 s.base, .int .i64 s.area, .int .i64 s.start, .int .u32 s.chain] from rfl)
  unfold RetS at HDEC
  simp only [hcells.out] at HDEC
  rw [hcells.out] at HX HB1 HENC ⊢
  have HS := Lib.hid hB
  have HN := Lib.hid hn
  clear hB hn hf hok
  have tok1 : True := trivial
  go_enter Try.func4, Try.ntmps4
  go_wp2_with (first
    | (go_at_call 18; go_must (refine (awake_true _).mono ?_; rintro e w1 ⟨rfl, hb⟩; have HB2 := Lib.hid (HB1.out.trans (hb.mono HB1.out.size)); have HX2 := Lib.hid (blk_below HX.out hb); clear hb))
    | (refine wpList_load_blk rfl 25 _ rfl (b := w.heap.size) rfl _ rfl rfl (fun _ => by simp [go_sem, isAgg]) HX2.out ?_)
    | (go_at_call 12; go_must (refine (HENC.out _).mono ?_; rintro e w2 ⟨A2, c2, rfl, ho, hb⟩; have HO := Lib.hid ho; have HB3 := Lib.hid (HB2.out.trans (hb.mono HB2.out.size)); have HX3 := Lib.hid (blk_below HX2.out hb); have HL0 := Lib.hid (own_lit0 w2 5); clear ho hb))
    | (at_builtin; have _t := tok1; clear tok1; go_must (refine wpList_append_rd rfl _ _ _ 5 rfl (.int .u8 0) 1 1 Try.underlying26 info_u8 rfl (by decide) HL0.out rfl (Bs.of_own (HO.out.alloc _)) rfl (bytes_oneCell _) ?_ ?c1a ?c2a ?c3a; clear _t; intro A1a c1a w1a ho1a hg1a; simp only [Nat.zero_add, List.nil_append] at ho1a hg1a; have hbx := hg1a.below ((Below.refl _ w2).alloc (Nat.le_refl _) _) HL0.out (Nat.le_refl _); have HO2 := Lib.hid ho1a; have HB4 := Lib.hid (HB3.out.trans (hbx.mono HB3.out.size)); have HX4 := Lib.hid (blk_below HX3.out hbx); have HS4 := Lib.hid (HS.out.below HB4.out); have HZ := Lib.hid hbx.size; clear ho1a hg1a hbx))
    | (at_builtin; go_must (refine wpList_append_rd rfl _ _ _ 5 rfl (.int .u8 0) 1 1 Try.underlying26 info_u8 rfl (by decide) HO2.out rfl HS4.out rfl (bytes_oneCell _) ?_ ?c1 ?c2 ?c3; intro A1 c1 w1 ho1 hg1))
    | (go_at_call 14; go_must (refine (HDEC.out _ _ _ _ (Bs.of_own (by have := ho1; rw [← bytes_append] at this; exact this))).mono ?_; rintro e w5 ⟨rfl, hb⟩; have HB5 := Lib.hid ((hg1.below HB4.out HO2.out HB3.out.size).trans (hb.mono (hg1.below HB4.out HO2.out HB3.out.size).size)); have HX5 := Lib.hid (blk_below ((hg1.g.block w.heap.size (blk_lt HX4.out) (by have h0 := blk_lt HX3.out; have h1 : ∀ k, (Value.slice A1a 72 c1a).ownBlock = some k → w2.heap.size ≤ k := (fun k hk => (own_base HO2.out k hk).1); intro e; have := h1 _ e.symm; omega)).trans HX4.out) hb); have hlt5 := blk_lt HX5.out; have y0 : w5.cell? ⟨w.heap.size, 0, none⟩ = some (.int .u64 s.serial) := blk_cell HX5.out 0; have y1 : w5.cell? ⟨w.heap.size, 1, none⟩ = some (.int .i64 s.epoch) := blk_cell HX5.out 1; have y2 : w5.cell? ⟨w.heap.size, 2, none⟩ = some (.int .i64 s.view) := blk_cell HX5.out 2; have y3 : w5.cell? ⟨w.heap.size, 3, none⟩ = some (.int .i64 s.normal) := blk_cell HX5.out 3; have y4 : w5.cell? ⟨w.heap.size, 4, none⟩ = some (.int .i64 s.top) := blk_cell HX5.out 4; have y5 : w5.cell? ⟨w.heap.size, 5, none⟩ = some (.int .i64 s.base) := blk_cell HX5.out 5; have y6 : w5.cell? ⟨w.heap.size, 6, none⟩ = some (.int .i64 s.area) := blk_cell HX5.out 6; have y7 : w5.cell? ⟨w.heap.size, 7, none⟩ = some (.int .i64 s.start) := blk_cell HX5.out 7; have y8 : w5.cell? ⟨w.heap.size, 8, none⟩ = some (.int .u32 s.chain) := blk_cell HX5.out 8; clear ho1 hg1 hb)))
  case c1a => simp
  case c2a => unfold maxLen; omega
  case c3a => simp
  case c1 => have := HN.out; omega
  case c2 => have := HN.out; unfold maxLen; omega
  case c3 => exact HZ.out
  go_ret
  exact ⟨rfl, HB5.out.alloc HB5.out.size _⟩
end Go.Proofs.Ytaldjmhikebecaa
