/- The reference of layer 8: Bad. -/
import Derived.Test.YtaldjmhikebecaaGreatRefR
import Derived.Test.YtaldjmhikebecaaGreatKeepW
import Derived.BigRegion
namespace Go.Proofs.YtaldjmhikebecaaGreat
open Go Go.RowKit
set_option maxRecDepth 100000
set_option linter.unusedVariables false
attribute [local go_sem] Oper.semAt_some
section
variable {w w' : World} {r L cap : Nat} {k : Dsk} {X : Nat → Prop}
def RowL (w : World) (L cap : Nat) : Prop := ∃ cur, w.heap[L]? = some (.cells cur 101 (0, 0)) ∧ cur.size = cap * 4
theorem RowL.set (h : RowL w L cap) (o : Nat) (v : Value) : RowL (w.setCell ⟨L, o, none⟩ v) L cap := by
  obtain ⟨cur, h1, h2⟩ := h
  exact ⟨_, blk_set h1 o v, by simpa using h2⟩
theorem RowL.cell_set (h : RowL w L cap) (o : Nat) (v : Value) (ho : o < cap * 4) : (w.setCell ⟨L, o, none⟩ v).cell? ⟨L, o, none⟩ = some v := by
  obtain ⟨cur, h1, h2⟩ := h
  rw [blk_cell (blk_set h1 o v), Array.getElem?_setIfInBounds_self, if_pos (by omega)]
theorem RowL.cell_ne (h : RowL w L cap) (o p : Nat) (v : Value) (ho : p ≠ o) : (w.setCell ⟨L, o, none⟩ v).cell? ⟨L, p, none⟩ = w.cell? ⟨L, p, none⟩ := by
  obtain ⟨cur, h1, h2⟩ := h
  rw [blk_cell (blk_set h1 o v), blk_cell h1, Array.getElem?_setIfInBounds_ne (Ne.symm ho)]
theorem OnRef.upd (h : OnRef X w r L cap k) (t : Touch (· = L) w w') (hrow : RowL w' L cap) (i : Nat) (hsame : ∀ o, (o < i * 4 ∨ i * 4 + 4 ≤ o) → w'.cell? ⟨L, o, none⟩ = w.cell? ⟨L, o, none⟩) (k' : Dsk) (hdims : k'.n = k.n ∧ k'.size = k.size ∧ k'.set = k.set ∧ k'.left = k.left)
    (hlen : k'.fast.length = k.n * k.size) (hoth : ∀ j, j < k.n → j ≠ i → k'.at_ j = k.at_ j ∧ k'.loose j = k.loose j ∧ k'.bad j = k.bad j) (hi : i < k.n → RAt X w' L k' i) : OnRef X w' r L cap k' := by
  obtain ⟨d1, d2, d3, d4⟩ := hdims
  have hbs : ∀ A n c l, Bs w A n c l → (∀ ad, A = some ad → ¬ X ad.block) → Bs w' A n c l := fun A n c l hB hA => t.bs hB fun ad e e2 => hA ad e (e2 ▸ h.xL)
  refine { blk := ?_, row := hrow, ncap := by rw [d1]; exact h.ncap, mcap := h.mcap, at_ := fun j hj => ?_, len := by rw [hlen, d1, d2], n1 := by rw [d1]; exact h.n1, n2 := by rw [d1]; exact h.n2, s1 := by rw [d2]; exact h.s1, s2 := by rw [d2]; exact h.s2, lf := by rw [d4]; exact h.lf, xr := h.xr, xL := h.xL, xlt := fun b hb => Nat.lt_of_lt_of_le (h.xlt b hb) t.size }
  · rw [d1, d2, d3, d4]
    exact t.blk h.blk h.ne
  · rw [d1] at hj
    by_cases hji : j = i
    · subst hji
      exact hi hj
    · obtain ⟨e1, e2, e3⟩ := hoth j hj hji
      have hat := h.at_ j hj
      have hc : ∀ x, x < 4 → w'.cell? ⟨L, j * 4 + x, none⟩ = w.cell? ⟨L, j * 4 + x, none⟩ := fun x hx => hsame _ (by omega)
      obtain ⟨A, c, h1, h2, h3⟩ := hat.f
      refine ⟨⟨A, c, by rw [d2]; exact (hc 0 (by omega)).trans h1, by rw [d2, e1]; exact hbs _ _ _ _ h2 h3, h3⟩, by rw [e2]; exact (hc 1 (by omega)).trans hat.l, ?_, by rw [e3]; exact (hc 3 (by omega)).trans hat.b⟩
      rw [e2]
      have := hat.nw
      split at this
      · exact (hc 2 (by omega)).trans this
      · obtain ⟨A, c, h1, h2, h3⟩ := this
        exact ⟨A, c, by rw [d2]; exact (hc 2 (by omega)).trans h1, by rw [d2]; exact hbs _ _ _ _ h2 h3, h3⟩
theorem OnRef.rowL (h : OnRef X w r L cap k) : RowL w L cap := h.row
theorem OnRef.keepBs (h : OnRef X w r L cap k) (t : Touch (· = L) w w') {A : Option Addr} {n c : Nat} {l : List UInt8} (hB : Bs w A n c l) (hA : ∀ ad, A = some ad → ¬ X ad.block) : Bs w' A n c l := t.bs hB fun ad e e2 => hA ad e (e2 ▸ h.xL)
theorem OnRef.badSet (h : OnRef X w r L cap k) (i : Nat) (hi : i < k.n) : OnRef X (((w.setCell ⟨L, i * 4 + 3, none⟩ (.bool true)).setCell ⟨L, i * 4 + 1, none⟩ (.bool false)).setCell ⟨L, i * 4 + 2, none⟩ (.slice none 0 0)) r L cap ((k.spoilt i).drop i) ∧ Touch (· = L) w (((w.setCell ⟨L, i * 4 + 3, none⟩ (.bool true)).setCell ⟨L, i * 4 + 1, none⟩ (.bool false)).setCell ⟨L, i * 4 + 2, none⟩ (.slice none 0 0)) := by
  have t : Touch (· = L) w (((w.setCell ⟨L, i * 4 + 3, none⟩ (.bool true)).setCell ⟨L, i * 4 + 1, none⟩ (.bool false)).setCell ⟨L, i * 4 + 2, none⟩ (.slice none 0 0)) := ((Touch.of_set (S := (· = L)) w (p := ⟨L, i * 4 + 3, none⟩) _ rfl).trans (Touch.of_set (S := (· = L)) _ (p := ⟨L, i * 4 + 1, none⟩) _ rfl)).trans (Touch.of_set (S := (· = L)) _ (p := ⟨L, i * 4 + 2, none⟩) _ rfl)
  have r1 := h.rowL.set (i * 4 + 3) (.bool true)
  have r2 := r1.set (i * 4 + 1) (.bool false)
  have hcap := h.ncap
  refine ⟨h.upd t (r2.set (i * 4 + 2) (.slice none 0 0)) i (fun o ho => ?_) _ ⟨rfl, rfl, rfl, rfl⟩ h.len (fun j hj hji => ⟨rfl, ?_, ?_⟩) (fun _ => ?_), t⟩
  · rw [r2.cell_ne _ _ _ (by omega), r1.cell_ne _ _ _ (by omega), h.rowL.cell_ne _ _ _ (by omega)]
  · simp [Dsk.drop, Dsk.spoilt, hji]
  · simp [Dsk.drop, Dsk.spoilt, hji]
  · obtain ⟨A, c, h1, h2, h3⟩ := (h.at_ i hi).f
    refine ⟨⟨A, c, ?_, h.keepBs t h2 h3, h3⟩, ?_, ?_, ?_⟩
    · rw [r2.cell_ne _ _ _ (by omega), r1.cell_ne _ _ _ (by omega), h.rowL.cell_ne _ _ _ (by omega)]
      exact h1
    · rw [r2.cell_ne _ _ _ (by omega), r1.cell_set _ _ (by omega)]
      simp [Dsk.drop]
    · simp only [Dsk.drop, if_pos]
      exact r2.cell_set _ _ (by omega)
    · rw [r2.cell_ne _ _ _ (by omega), r1.cell_ne _ _ _ (by omega), h.rowL.cell_set _ _ (by omega)]
      simp [Dsk.drop, Dsk.spoilt]
set_option maxHeartbeats 4000000 in
theorem RBad_ok (h : OnRef X w r L cap k) (i : Nat) (hi : i < k.n) : Calls Tryz.prog 25 #[.pointer (some ⟨r, 0, none⟩), .int .i64 (i : Int)] w fun e w' =>
    e = .returned (.int .i64 0) ∧ OnRef X w' r L cap ((k.spoilt i).drop i) ∧ Touch (· = L) w w' := by
  have c1 : w.cell? ⟨r, 1, none⟩ = some (.slice (some ⟨L, 0, none⟩) k.n cap) := blk_cell h.blk 1
  have hn2 := h.n2
  have hat := h.at_ i hi
  have HD := Lib.hid h
  have hne := h.ne
  obtain ⟨cur, hr1, hr2⟩ := h.row
  have fz : ∀ o, w.frozen? ⟨L, o, none⟩ = false := fun o => blk_frozen hr1 o
  have z1 := fz (i * 4 + 1)
  have z2 := fz (i * 4 + 2)
  have z3 := fz (i * 4 + 3)
  have y1 := hat.l
  have y3 := hat.b
  obtain ⟨v2, y2⟩ : ∃ v2, w.cell? ⟨L, i * 4 + 2, none⟩ = some v2 := by
    have := hat.nw
    split at this
    · exact ⟨_, this⟩
    · obtain ⟨A, c, h1, _⟩ := this
      exact ⟨_, h1⟩
  have k1 : ¬ (i : Int) < 0 := by omega
  have k2 : ¬ (k.n : Int) ≤ (i : Int) := by omega
  have k3 : (i : Int) < (k.n : Int) := by omega
  have HI := Lib.hid hi
  clear h hat fz hr1 hr2
  generalize hb1 : Value.bool (k.loose i).isSome = v1 at y1
  generalize hb3 : Value.bool (k.bad i) = v3 at y3
  clear hb1 hb3
  go_enter Tryz.func25, Tryz.ntmps25
  go_wp2
  go_region
  all_goals
    go_wp2
    go_ret
    exact ⟨rfl, (HD.out.badSet i HI.out).1.below ((Below.refl _ _).drew), (HD.out.badSet i HI.out).2.trans (Touch.of_below ((Below.refl _ _).drew))⟩
theorem RBad_range (h : OnRef X w r L cap k) (i : Int) (hi : ¬ (0 ≤ i ∧ i < k.n)) : Calls Tryz.prog 25 #[.pointer (some ⟨r, 0, none⟩), .int .i64 i] w fun e w' => e = .returned (.int .i64 5) ∧ w' = w := by
  have c1 : w.cell? ⟨r, 1, none⟩ = some (.slice (some ⟨L, 0, none⟩) k.n cap) := blk_cell h.blk 1
  clear h
  rcases (by omega : i < 0 ∨ 0 ≤ i) with k1 | k1
  · go_enter Tryz.func25, Tryz.ntmps25
    go_wp2
    go_ret
    exact ⟨rfl, rfl⟩
  · have k0 : ¬ i < 0 := by omega
    have k2 : (k.n : Int) ≤ i := by omega
    go_enter Tryz.func25, Tryz.ntmps25
    go_wp2
    go_ret
    exact ⟨rfl, rfl⟩
end
end Go.Proofs.YtaldjmhikebecaaGreat
