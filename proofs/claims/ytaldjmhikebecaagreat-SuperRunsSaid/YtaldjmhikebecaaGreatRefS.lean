/- The reference of layer 8: Spoil. -/
import Derived.Test.YtaldjmhikebecaaGreatAlike
import Derived.Deep.RegionLaw
import Derived.IntWalk
namespace Go.Proofs.YtaldjmhikebecaaGreat
open Go Go.RowKit
set_option maxRecDepth 100000
set_option linter.unusedVariables false
attribute [local go_sem] Oper.semAt_some
section
variable {w w' : World} {r L cap : Nat} {k : Dsk} {X : Nat → Prop}
set_option maxHeartbeats 4000000 in
theorem RSpoil_ok (h : OnRef X w r L cap k) (i : Nat) (hi : i < k.n) (A : Option Addr) (n c' : Nat) (l : List UInt8) (hB : Bs w A n c' l) (hn : n ≤ k.size) :
    Calls Tryz.prog 23 #[.pointer (some ⟨r, 0, none⟩), .int .i64 (i : Int), .slice A n c'] w fun e w' =>
      e = .returned (.int .i64 0) ∧ OnRef X w' r L cap (k.sec4 i (l ++ (k.at_ i).drop n) false) ∧ Touch (· = L) w w' := by
  have c0 : w.cell? ⟨r, 0, none⟩ = some (.int .i64 (k.size : Int)) := blk_cell h.blk 0
  have c1 : w.cell? ⟨r, 1, none⟩ = some (.slice (some ⟨L, 0, none⟩) k.n cap) := blk_cell h.blk 1
  have hn2 := h.n2
  have hs2 := h.s2
  have hat := h.at_ i hi
  obtain ⟨FA, fc, f0, fB, _⟩ := hat.f
  have f1 := hat.l
  have f3 := hat.b
  obtain ⟨v2, f2⟩ : ∃ v2, w.cell? ⟨L, i * 4 + 2, none⟩ = some v2 := by
    have := hat.nw
    split at this
    · exact ⟨_, this⟩
    · obtain ⟨_, _, h1, _⟩ := this
      exact ⟨_, h1⟩
  generalize Value.bool (k.loose i).isSome = v1 at f1
  generalize Value.bool (k.bad i) = v3 at f3
  have fz : ∀ o, w.frozen? ⟨L, o, none⟩ = false := fun o => by obtain ⟨cur, hr1, _⟩ := h.row; exact blk_frozen hr1 o
  have FZ := Lib.hid fz
  have hLl : L < w.heap.size := by obtain ⟨cur, hr1, _⟩ := h.row; exact blk_lt hr1
  have k1 : ¬ (i : Int) < 0 := by omega
  have k2 : ¬ (k.n : Int) ≤ (i : Int) := by omega
  have k2' : (i : Int) < (k.n : Int) := by omega
  have k3 : ¬ (k.size : Int) < (n : Int) := by omega
  obtain ⟨A4, hk1, hk2, _⟩ := cutB FA k.size fc n hn
  obtain ⟨m2, hm2⟩ : ∃ m2, m2 = k.size - n := ⟨_, rfl⟩
  rw [← hm2] at hk1 hk2
  have HK2 := Lib.hid hk2
  have HM2 := Lib.hid hm2
  have hm3 : m2 ≤ 8192 := by omega
  have HFB := Lib.hid fB
  have HB := Lib.hid hB
  have HD := Lib.hid h
  have HI := Lib.hid hi
  have HQ1 := Lib.hid (own_lit0 w 5)
  have HF := Lib.hid (show w.cell? ⟨L, i * 4, none⟩ = some (.slice FA k.size fc) ∧ w.cell? ⟨L, i * 4 + 1, none⟩ = some v1 ∧ w.cell? ⟨L, i * 4 + 2, none⟩ = some v2 ∧ w.cell? ⟨L, i * 4 + 3, none⟩ = some v3 from ⟨f0, f1, f2, f3⟩)
  have C1 := Lib.hid c1
  have HN := Lib.hid hn
  have hnb : n ≤ 8192 := by omega
  have HLT := Lib.hid hLl
  have HRT := Lib.hid (blk_lt h.blk)
  clear h hB hat fB fz hk2 hm2 f1 f2 f3 hi hn
  have hrl : r < w.heap.size := HRT.out
  have hll : L < w.heap.size := HLT.out
  go_enter Tryz.func23, Tryz.ntmps23
  go_wp2
  go_region_law (first
    | (refine step_append_rd rfl _ _ _ 5 rfl (.int .u8 0) 1 1 Tryz.underlying51 info_u8 rfl (by decide) (base := w.heap.size) (n := 0 + n) (v := .slice A5 (0 + n) c5) (xs := [] ++ bytes l) (by exact HO5.out) (by first | rfl | exact (congrArg (Value.slice A5 · c5) (Nat.zero_add n).symm)) (HK2.out _ _ (by exact HFB.out.below HB5.out)) rfl (bytes_oneCell _) (by omega) (by unfold maxLen; omega) (by have := HB5.out.size; omega) (fun A6 c6 w6 ho6 hg6 => ?_)
       have HO6 := Lib.hid ho6
       have HB6 := Lib.hid (hg6.below HB5.out HO5.out (Nat.le_refl _))
       have y1 := cell_keep HB6.out C1.out
       have x0 := cell_keep HB6.out HF.out.1
       have x1 := cell_keep HB6.out HF.out.2.1
       have x2 := cell_keep HB6.out HF.out.2.2.1
       have x3 := cell_keep HB6.out HF.out.2.2.2
       have g0 : w6.frozen? ⟨L, i * 4, none⟩ = false := (HB6.out.frozen (p := ⟨L, i * 4, none⟩) HLT.out).trans (FZ.out _)
       have g1 : w6.frozen? ⟨L, i * 4 + 1, none⟩ = false := (HB6.out.frozen (p := ⟨L, i * 4 + 1, none⟩) HLT.out).trans (FZ.out _)
       have g2 : w6.frozen? ⟨L, i * 4 + 2, none⟩ = false := (HB6.out.frozen (p := ⟨L, i * 4 + 2, none⟩) HLT.out).trans (FZ.out _)
       have g3 : w6.frozen? ⟨L, i * 4 + 3, none⟩ = false := (HB6.out.frozen (p := ⟨L, i * 4 + 3, none⟩) HLT.out).trans (FZ.out _)
       clear ho6 hg6)
    | (refine step_append_rd rfl _ _ _ 5 rfl (.int .u8 0) 1 1 Tryz.underlying51 info_u8 rfl (by decide) (base := w.heap.size) (n := 0) (v := .slice (some ⟨w.heap.size, 0, none⟩) 0 0) (xs := []) (by exact HQ1.out) rfl (by exact HB.out.alloc _) rfl (bytes_oneCell _) (by omega) (by unfold maxLen; omega) (by simp) (fun A5 c5 w5 ho5 hg5 => ?_)
       have HO5 := Lib.hid ho5
       have HB5 := Lib.hid (hg5.below (w0 := w) (by exact ((Below.refl _ w).alloc (Nat.le_refl _) (.cells #[] 5)).drew) HQ1.out (Nat.le_refl _))
       have y1 := cell_keep HB5.out C1.out
       clear ho5 hg5))
  all_goals
    go_wp2
    go_ret
    have e : n + m2 = k.size := by have := HM2.out; have := HN.out; omega
    have ho := HO6.out
    rw [Nat.zero_add, e, List.nil_append, ← bytes_append] at ho
    have hps := (HD.out.below HB6.out).putSec i HI.out (A := A6) (c := c6) (l := l ++ (k.at_ i).drop n) false (Bs.of_own ho) (by
      intro ad ea hx
      subst ea
      have h1 := (own_base ho ad.block rfl).1
      have h2 := HD.out.xlt _ hx
      omega)
    rw [e]
    exact ⟨rfl, hps.1, (Touch.of_below HB6.out).trans hps.2⟩
end
end Go.Proofs.YtaldjmhikebecaaGreat
