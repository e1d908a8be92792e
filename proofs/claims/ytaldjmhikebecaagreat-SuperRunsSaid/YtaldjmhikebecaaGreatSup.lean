/- Layer 9 (super): Check of the reference; Encode of both. -/
import Derived.Test.YtaldjmhikebecaaGreatEach
namespace Go.Proofs.YtaldjmhikebecaaGreat
open Go Go.RowKit
set_option maxRecDepth 100000
set_option linter.unusedVariables false
attribute [local go_sem] Oper.semAt_some
def nums5 (s : Sup) : List Int := [s.epoch, s.view, s.normal, s.top, s.base]
theorem all5 (s : Sup) : (∀ k, Sup.okNum (s.num k)) ↔ ∀ j (h : j < 5), Sup.okNum ((nums5 s)[j]'(by simpa [nums5] using h)) := by
  constructor
  · intro h j hj
    have := h ⟨j, hj⟩
    match j, hj with
    | 0, _ => exact this
    | 1, _ => exact this
    | 2, _ => exact this
    | 3, _ => exact this
    | 4, _ => exact this
  · intro h k
    match k with
    | ⟨0, _⟩ => exact h 0 (by omega)
    | ⟨1, _⟩ => exact h 1 (by omega)
    | ⟨2, _⟩ => exact h 2 (by omega)
    | ⟨3, _⟩ => exact h 3 (by omega)
    | ⟨4, _⟩ => exact h 4 (by omega)
theorem RCheck_any (s : Sup) (w : World) : Calls Tryz.prog 10 #[.agg s.cells] w (RetI w (chk s)) := by
  have hb1 := blk_alloc (blk_new w (.cells s.cells 30)) (.cells #[.int .i64 s.epoch, .int .i64 s.view, .int .i64 s.normal, .int .i64 s.top, .int .i64 s.base] 3)
  have hrd := cells_at (w.alloc (.cells s.cells 30)) [.int .i64 s.epoch, .int .i64 s.view, .int .i64 s.normal, .int .i64 s.top, .int .i64 s.base] 3 5 (w.heap.size + 1) (by simp) rfl (by decide)
  have hbel : Below w.heap.size w ((w.alloc (.cells s.cells 30)).alloc (.cells #[.int .i64 s.epoch, .int .i64 s.view, .int .i64 s.normal, .int .i64 s.top, .int .i64 s.base] 3)) := by go_grown
  have hc6 := blk_cell hb1 6
  have hc7 := blk_cell hb1 7
  have HRD := Lib.hid hrd
  have HBEL := Lib.hid hbel
  clear hb1 hrd hbel
  simp only [Sup.cells] at hc6 hc7
  have hcells := Lib.hid (show s.cells = #[.int .u64 s.serial, .int .i64 s.epoch, .int .i64 s.view, .int .i64 s.normal, .int .i64 s.top, .int .i64 s.base, .int .i64 s.area, .int .i64 s.start, .int .u32 s.chain] from rfl)
  rw [hcells.out] at HRD HBEL ⊢
  go_enter Tryz.func10, Tryz.ntmps10
  go_wp2_with fail
  generalize ((w.alloc (.cells #[.int .u64 s.serial, .int .i64 s.epoch, .int .i64 s.view, .int .i64 s.normal, .int .i64 s.top, .int .i64 s.base, .int .i64 s.area, .int .i64 s.start, .int .u32 s.chain] 30)).alloc (.cells #[.int .i64 s.epoch, .int .i64 s.view, .int .i64 s.normal, .int .i64 s.top, .int .i64 s.base] 3)) = W0 at hc6 hc7 HRD HBEL ⊢
  have hlen : (nums5 s).length = 5 := rfl
  go_loop [17] (fun i => ∃ k : Nat, k ≤ 5 ∧ i = .int .i64 k ∧ Hid (∀ j (h : j < 5), j < k → Sup.okNum ((nums5 s)[j]'(by simpa [nums5] using h)))) (fun i => 5 - (intOf i).toNat)
  case atStart => exact ⟨0, by omega, rfl, fun j _ h => absurd h (by omega)⟩
  case round =>
    obtain ⟨k, hk, rfl, hall⟩ := hrel
    by_cases hlt : k < 5
    · have hcell : W0.cell? ⟨w.heap.size + 1, k, none⟩ = some (.int .i64 ((nums5 s)[k]'(by omega))) := by
        obtain ⟨ad, e, hc⟩ := HRD.out.at_ hlt
        cases e
        have e2 : (⟨w.heap.size + 1, 0, none⟩ : Addr).add k = ⟨w.heap.size + 1, k, none⟩ := by unfold Addr.add; split <;> simp_all
        rw [e2] at hc
        rw [hc]
        congr 1
        match k, hlt with
        | 0, _ => rfl
        | 1, _ => rfl
        | 2, _ => rfl
        | 3, _ => rfl
        | 4, _ => rfl
      by_cases hok : Sup.okNum ((nums5 s)[k]'(by omega))
      · have ho1 : ¬ ((nums5 s)[k]'(by omega)) < 0 := by have := hok.1; omega
        have ho2 : ¬ 4611686018427387904 < ((nums5 s)[k]'(by omega)) := by have := hok.2; omega
        have hnx : Hid (∀ j (h : j < 5), j < k + 1 → Sup.okNum ((nums5 s)[j]'(by simpa [nums5] using h))) := Lib.hid (fun j hj h => by
          rcases Nat.lt_or_ge j k with h' | h'
          · exact hall.out j hj h'
          · obtain rfl : j = k := by omega
            exact hok)
        clear hok
        generalize (nums5 s)[k]'(by omega) = y at hcell ho1 ho2
        clear hlen
        go_wp2
        exact ⟨⟨k + 1, by omega, by go_num, hnx⟩, by simp [intOf]; omega⟩
      · have hfin : Hid (chk s = 90) := Lib.hid (if_neg (fun h => hok ((all5 s).1 h.1 k hlt)))
        have hcase : ((nums5 s)[k]'(by omega)) < 0 ∨ (0 ≤ ((nums5 s)[k]'(by omega)) ∧ 4611686018427387904 < ((nums5 s)[k]'(by omega))) := by
          unfold Sup.okNum at hok
          omega
        clear hok
        generalize (nums5 s)[k]'(by omega) = y at hcell hcase
        clear hlen
        rcases hcase with hcase | hcase
        all_goals
          go_wp2
          go_ret
          rw [hfin.out]
          exact ⟨rfl, HBEL.out⟩
    · obtain rfl : k = 5 := by omega
      have hall' : Hid (∀ k, Sup.okNum (s.num k)) := Lib.hid ((all5 s).2 (fun j h => hall.out j h h))
      by_cases ha : 0 ≤ s.area ∧ s.area ≤ 1 ∧ 0 ≤ s.start ∧ s.start ≤ 65536
      · have hfin : Hid (chk s = 0) := Lib.hid (if_pos ⟨hall'.out, ha⟩)
        clear hlen
        go_wp2
        go_ret
        rw [hfin.out]
        exact ⟨rfl, HBEL.out⟩
      · have hfin : Hid (chk s = 90) := Lib.hid (if_neg (fun h => ha h.2))
        have hcase : s.area < 0 ∨ (0 ≤ s.area ∧ 1 < s.area) ∨ (0 ≤ s.area ∧ s.area ≤ 1 ∧ s.start < 0) ∨ (0 ≤ s.area ∧ s.area ≤ 1 ∧ 0 ≤ s.start ∧ 65536 < s.start) := by omega
        clear ha hlen
        rcases hcase with hcase | hcase | hcase | hcase
        all_goals
          go_wp2
          go_ret
          rw [hfin.out]
          exact ⟨rfl, HBEL.out⟩

/-- A superblock's bytes. -/
def supBody (s : Sup) : List UInt8 := leAll 8 [s.epoch.toNat, s.view.toNat, s.normal.toNat, s.top.toNat, s.base.toNat] ++ leAll 4 [s.area.toNat, s.start.toNat, s.chain]
theorem supBody_length (s : Sup) : (supBody s).length = 52 := by simp [supBody, leAll_length]
def supB (s : Sup) : List UInt8 := frameB 1 s.serial (supBody s)
theorem supB_length (s : Sup) : (supB s).length = 72 := by rw [supB, frameB_length, supBody_length]
/-- What its kinds allow. -/
def Sup.fit (s : Sup) : Prop := s.serial < 18446744073709551616 ∧ s.chain < 4294967296
theorem okNum_cast {x : Int} (h : Sup.okNum x) : (x : Int) = (x.toNat : Int) ∧ x.toNat < 18446744073709551616 := by
  unfold Sup.okNum at h
  omega
theorem REncode_bad (s : Sup) (w : World) (h : ¬ s.ok) : Calls Tryz.prog 49 #[.agg s.cells] w fun e w' => e = .returned (.tuple #[.slice none 0 0, .int .i64 90]) ∧ Below w.heap.size w w' := by
  have hf := Lib.hid (show chk s = 90 from if_neg h)
  clear h
  have hcells := Lib.hid (show s.cells = #[.int .u64 s.serial, .int .i64 s.epoch, .int .i64 s.view, .int .i64 s.normal, .int .i64 s.top, .int .i64 s.base, .int .i64 s.area, .int .i64 s.start, .int .u32 s.chain] from rfl)
  have hc := Lib.hid (RCheck_any s (w.alloc (.cells s.cells 30)))
  rw [hf.out, hcells.out] at hc
  rw [hcells.out]
  go_enter Tryz.func49, Tryz.ntmps49
  go_wp2_with (go_at_call 10; go_must (refine hc.out.mono ?_; rintro e wx ⟨rfl, hbx⟩; have HB := Lib.hid hbx; clear hbx))
  go_ret2
  exact ⟨rfl, below_alloc_then HB.out⟩
end Go.Proofs.YtaldjmhikebecaaGreat
