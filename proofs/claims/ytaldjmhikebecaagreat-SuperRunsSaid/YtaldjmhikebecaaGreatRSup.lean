/- The reference of layer 9, on its disk: fits, Save, a slot. -/
import Derived.Test.YtaldjmhikebecaaGreatRefW
import Derived.Test.YtaldjmhikebecaaGreatRefR
import Derived.Test.YtaldjmhikebecaaGreatSave
import Derived.Test.YtaldjmhikebecaaGreatLoad
import Derived.Test.YtaldjmhikebecaaGreatDecR
import Derived.StillTailTactics
import Derived.Test.YtaldjmhikebecaaGreatOctR
namespace Go.Proofs.YtaldjmhikebecaaGreat
open Go Go.RowKit
set_option maxRecDepth 100000
set_option linter.unusedVariables false
attribute [local go_sem] Oper.semAt_some
theorem pad_more {n k j : Nat} (hk : 1 ≤ k) (hj : j < (k - n % k) % k) : (n + j) % k ≠ 0 := by
  have h1 : n % k < k := Nat.mod_lt _ (by omega)
  have h2 : (k - n % k) % k < k := Nat.mod_lt _ (by omega)
  rcases Nat.eq_zero_or_pos (n % k) with h0 | h0
  · rw [h0, Nat.sub_zero, Nat.mod_self] at hj
    omega
  · rw [Nat.mod_eq_of_lt (show k - n % k < k by omega)] at hj
    rw [Nat.add_mod, Nat.mod_eq_of_lt (show j < k by omega), Nat.mod_eq_of_lt (by omega)]
    omega
theorem pad_done {n k : Nat} (hk : 1 ≤ k) : (n + (k - n % k) % k) % k = 0 := by
  have h1 : n % k < k := Nat.mod_lt _ (by omega)
  rcases Nat.eq_zero_or_pos (n % k) with h0 | h0
  · rw [h0, Nat.sub_zero, Nat.mod_self, Nat.add_zero, h0]
  · rw [Nat.mod_eq_of_lt (show k - n % k < k by omega), Nat.add_mod, Nat.mod_eq_of_lt (show k - n % k < k by omega), show n % k + (k - n % k) = k by omega, Nat.mod_self]
theorem RPad_ok (A : Option Addr) (n c : Nat) (l : List UInt8) (w : World) (h : Bs w A n c l) (k : Nat) (hk1 : 1 ≤ k) (hk2 : k ≤ 16777216) (hn : n ≤ 70368744177664) :
    Calls Tryz.prog 51 #[.slice A n c, .int .i64 k] w (RetBE w (n + (k - n % k) % k) (l ++ List.replicate ((k - n % k) % k) 0) 0) := by
  have HM := Lib.hid (fun j => pad_more (n := n) (k := k) (j := j) hk1)
  have HDN := Lib.hid (pad_done (n := n) (k := k) hk1)
  have hrk : (k - n % k) % k < k := Nat.mod_lt _ (by omega)
  have HRK := Lib.hid hrk
  have HN := Lib.hid hn
  have hr := h.alloc (.cells #[] 5)
  have HR := Lib.hid hr
  have ho := Lib.hid (own_lit0 w 5)
  have hnn := h.i64
  clear h hr hrk hn
  generalize (k - n % k) % k = r at HM HDN HRK ⊢
  go_enter Tryz.func51, Tryz.ntmps51
  go_wp2_with (at_builtin; go_must (refine wpList_append_rd rfl _ _ _ 5 rfl (.int .u8 0) 1 1 Tryz.underlying51 info_u8 rfl (by decide) ho.out rfl HR.out rfl (bytes_oneCell l) ?_ ?c1 ?c2 ?c3; intro A1 c1 w1 ho1 hg1))
  case c1 => have := HN.out; omega
  case c2 => have := HN.out; unfold maxLen; omega
  case c3 => simp
  simp only [Nat.zero_add, List.nil_append] at ho1 hg1 ⊢
  have HO := Lib.hid ho1
  have HB := Lib.hid (hg1.below ((Below.refl _ _).alloc (Nat.le_refl _) _) ho.out (Nat.le_refl _))
  clear ho1 hg1
  go_loopw [6] (fun u wr => ∃ (j p : Nat) (A' : Option Addr) (c' : Nat), j ≤ r ∧ u = .slice A' p c' ∧ Hid (p = n + j) ∧ Hid (wr.ownsRow w.heap.size 5 1 (.slice A' p c') p (bytes (l ++ List.replicate j 0))) ∧ Hid (Below w.heap.size w wr)) (fun u _ => n + r - (match u with | .slice _ p _ => p | _ => 0))
  case atStart => exact ⟨0, n, A1, c1, Nat.zero_le _, rfl, Lib.hid rfl, by simpa [Hid] using HO.out, HB⟩
  case round =>
    obtain ⟨j, p, A', c', hj, rfl, hp, hown, hbel⟩ := hrel
    by_cases hlt : j < r
    · have hne : ¬ p % k = 0 := by rw [hp.out]; exact HM.out j hlt
      have hpm : ((p : Int) % (k : Int) != 0) = true := by
        rw [bne_iff_ne]
        show ((p % k : Nat) : Int) ≠ 0
        omega
      have hk0 : ¬ ((k : Int) = 0) := by omega
      clear hne
      go_wp2_with (at_builtin; go_must (refine wpList_append_rd rfl _ _ _ 5 rfl (.int .u8 0) 1 1 Tryz.underlying51 info_u8 rfl (by decide) (hown.out.alloc _) rfl (cell_new1 _ _ _) rfl (by simp [Value.oneCell']) ?_ ?c1 ?c2 ?c3; intro A1 c1 w1 ho1 hg1))
      case c1 => have := HN.out; have := HRK.out; have := hp.out; omega
      case c2 => have := HN.out; have := HRK.out; have := hp.out; unfold maxLen; omega
      case c3 => have := hbel.out.size; simp; omega
      refine ⟨⟨j + 1, p + 1, A1, c1, by omega, rfl, Lib.hid (by rw [hp.out]; omega), ?_, Lib.hid (hg1.below (hbel.out.alloc hbel.out.size _) (hown.out.alloc _) (Nat.le_refl _))⟩, by have := hp.out; simp only; omega⟩
      rw [List.replicate_succ', ← List.append_assoc, bytes_append]
      exact ho1
    · obtain rfl : j = r := by omega
      have hpm : ((p : Int) % (k : Int) != 0) = false := by
        rw [bne_eq_false_iff_eq]
        show ((p % k : Nat) : Int) = 0
        rw [hp.out, HDN.out]
        rfl
      have hk0 : ¬ ((k : Int) = 0) := by omega
      go_wp2_with fail
      go_ret2
      obtain rfl := hp.out
      exact ⟨A', c', rfl, hown.out, hbel.out⟩
end Go.Proofs.YtaldjmhikebecaaGreat
namespace Go.Proofs.YtaldjmhikebecaaGreat
open Go Go.RowKit
set_option maxRecDepth 100000
set_option linter.unusedVariables false
attribute [local go_sem] Oper.semAt_some
section
variable {w w' : World} {r L cap : Nat} {k : Dsk} {X : Nat → Prop}
theorem Rfits_ok (h : OnRef X w r L cap k) : Calls Tryz.prog 50 #[.pointer (some ⟨r, 0, none⟩)] w fun e w' => e = .returned (.bool (decide (2 ≤ k.n ∧ 72 ≤ k.size))) ∧ w' = w := by
  have c0 : w.cell? ⟨r, 0, none⟩ = some (.int .i64 (k.size : Int)) := blk_cell h.blk 0
  have c1 : w.cell? ⟨r, 1, none⟩ = some (.slice (some ⟨L, 0, none⟩) k.n cap) := blk_cell h.blk 1
  have hn := h.n2
  have hs := h.s2
  clear h
  by_cases h2 : 2 ≤ k.n
  · by_cases h72 : 72 ≤ k.size
    · rw [decide_eq_true (And.intro h2 h72)]
      generalize k.n = n at c1 hn h2
      generalize k.size = s at c0 hs h72
      have i72 : decide ((72 : Int) ≤ (s : Int)) = true := by rw [decide_eq_true_iff]; omega
      go_enter Tryz.func50, Tryz.ntmps50
      go_wp2_with fail
      go_ret
      exact ⟨by simp [i72], rfl⟩
    · rw [decide_eq_false (fun h => h72 h.2)]
      generalize k.n = n at c1 hn h2
      generalize k.size = s at c0 hs h72
      have i72 : decide ((72 : Int) ≤ (s : Int)) = false := by rw [decide_eq_false_iff_not]; omega
      go_enter Tryz.func50, Tryz.ntmps50
      go_wp2_with fail
      go_ret
      exact ⟨by simp [i72], rfl⟩
  · rw [decide_eq_false (fun h => h2 h.1)]
    generalize k.n = n at c1 hn h2
    go_enter Tryz.func50, Tryz.ntmps50
    go_wp2_with fail
    go_ret
    exact ⟨rfl, rfl⟩
set_option maxHeartbeats 2000000 in
theorem RSave_ok (h : OnRef X w r L cap k) (s : Sup) (hf : s.fit) (hok : s.ok) (hn : 2 ≤ k.n) (hs : 72 ≤ k.size) (hon : k.on) :
    Calls Tryz.prog 19 #[.pointer (some ⟨r, 0, none⟩), .agg s.cells] w fun e w' => e = .returned (.int .i64 0) ∧ OnRef X w' r L cap (k.rless.puts (s.serial % 2) (padB s k.size) 1) ∧ Touch (fun b => b = r ∨ b = L) w w' := by
  have hs2 := h.s2
  have hpl := pad_len k.size hs
  have hser : s.serial < 18446744073709551616 := hf.1
  have hm2 : s.serial % 2 < 2 := Nat.mod_lt _ (by omega)
  have hrl : r < w.heap.size := blk_lt h.blk
  have hLl : L < w.heap.size := by obtain ⟨cur, h1, _⟩ := h.row; exact blk_lt h1
  have HFITS := Lib.hid (fun (W : World) (hb : Below w.heap.size w W) => by have := Rfits_ok (h.below hb); rw [decide_eq_true (And.intro hn hs)] at this; exact this)
  have HENC := Lib.hid (fun (W : World) => REncode_ok s W hf hok)
  have HPAD := Lib.hid (fun (A : Option Addr) (c' : Nat) (W : World) (hb : Bs W A 72 c' (supB s)) => by have := RPad_ok A 72 c' (supB s) W hb k.size (by omega) (by omega) (by omega); rw [hpl] at this; exact this)
  have HSZ := Lib.hid (fun (W : World) (hb : Below w.heap.size w W) => (cell_keep hb (blk_cell h.blk 0) : W.cell? ⟨r, 0, none⟩ = some (.int .i64 (k.size : Int))))
  have HWR := Lib.hid (fun (A : Option Addr) (c' : Nat) (W : World) (hb : Below w.heap.size w W) (hbs : Bs W A k.size c' (padB s k.size)) (hA : ∀ ad, A = some ad → w.heap.size ≤ ad.block) => by
    have := RefWrite_ok (h.below hb) A k.size c' (padB s k.size) hbs (fun _ ad e => by have := hA ad e; omega) (s.serial % 2) 1 (by omega) (by omega) hon
    rw [show ((s.serial % 2 : Nat) : Int) = (s.serial : Int) % 2 from rfl] at this
    exact this)
  have b1 : Below w.heap.size w (w.alloc (.cells s.cells 30)) := (Below.refl _ w).alloc (Nat.le_refl _) _
  have HB1 := Lib.hid b1
  have HX := Lib.hid (blk_new w (.cells s.cells 30))
  have hcells := Lib.hid (show s.cells = #[.int .u64 s.serial, .int .i64 s.epoch, .int .i64 s.view, .int .i64 s.normal, .int .i64 s.top, .int .i64 s.base, .int .i64 s.area, .int .i64 s.start, .int .u32 s.chain] from rfl)
  rw [hcells.out] at HB1 HX HENC ⊢
  clear b1 h hf hok hn hs hon hpl
  go_enter Tryz.func19, Tryz.ntmps19
  go_wp2_with (first
    | (refine wpList_load_blk rfl 30 _ rfl (b := w.heap.size) rfl _ rfl rfl (fun _ => by simp [go_sem, isAgg]) HX.out ?_)
    | (go_at_call 49; go_must (refine (HENC.out _).mono ?_; rintro e w2 ⟨A2, c2, rfl, ho, hb⟩; have HO := Lib.hid ho; have HB3 := Lib.hid (HB1.out.trans (hb.mono HB1.out.size)); have HX3 := Lib.hid (blk_below HX.out hb); clear ho hb))
    | (go_at_call 50; go_must (refine (HFITS.out _ HB3.out).mono ?_; rintro e wx ⟨rfl, hwx⟩; obtain rfl := hwx.symm; have hsz := HSZ.out _ HB3.out))
    | (go_at_call 51; go_must (refine (HPAD.out _ _ _ (Bs.of_own HO.out)).mono ?_; rintro e w5 ⟨A5, c5, rfl, ho, hb⟩; have HO4 := Lib.hid ho; have HB6 := Lib.hid (HB3.out.trans (hb.mono HB3.out.size)); have HX6 := Lib.hid (blk_below HX3.out hb); clear ho hb hsz; have hx0 : w5.cell? ⟨w.heap.size, 0, none⟩ = some (.int .u64 s.serial) := blk_cell HX6.out 0; have hA5 := Lib.hid (fun ad (e : A5 = some ad) => show w.heap.size ≤ ad.block from by subst e; have := own_base HO4.out ad.block rfl; have := HB3.out.size; omega)))
    | (go_at_call 52; go_must (refine (HWR.out _ _ _ HB6.out (Bs.of_own HO4.out) hA5.out).mono ?_; rintro e w6 ⟨rfl, hd, ht⟩; have HDK := Lib.hid hd; have HT := Lib.hid ht; clear hd ht)))
  go_ret
  exact ⟨rfl, HDK.out, (Touch.of_below HB6.out).trans HT.out⟩
end
end Go.Proofs.YtaldjmhikebecaaGreat
