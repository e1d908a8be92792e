/- The reference of layer 8: Barrier. -/
import Derived.Test.YtaldjmhikebecaaGreatAlike
namespace Go.Proofs.YtaldjmhikebecaaGreat
open Go Go.RowKit
set_option maxRecDepth 100000
set_option linter.unusedVariables false
attribute [local go_sem] Oper.semAt_some
section
variable {w w' : World} {r L cap : Nat} {k : Dsk} {X : Nat → Prop}
theorem rless_dims (k : Dsk) : k.rless.n = k.n ∧ k.rless.size = k.size ∧ k.rless.fast = k.fast ∧ k.rless.loose = k.loose ∧ k.rless.bad = k.bad ∧ k.rless.set = k.set := by
  unfold Dsk.rless
  split <;> exact ⟨rfl, rfl, rfl, rfl, rfl, rfl⟩
theorem OnRef.loose_len (h : OnRef X w r L cap k) : ∀ i, i < k.n → ∀ l, k.loose i = some l → l.length = k.size := by
  intro i hi l hl
  have := (h.at_ i hi).nw
  rw [hl] at this
  obtain ⟨A, c, _, hB, _⟩ := this
  exact hB.len
set_option maxHeartbeats 4000000 in
theorem RBarrier_ok (h : OnRef X w r L cap k) (hon : k.on) : Calls Tryz.prog 20 #[.pointer (some ⟨r, 0, none⟩)] w fun e w' =>
    e = .returned (.int .i64 0) ∧ OnRef X w' r L cap k.rless.firm ∧ Touch (fun b => b = r ∨ b = L) w w' := by
  have hp := Rpower_ok h
  rw [decide_eq_true hon, if_pos hon] at hp
  have hn2 := h.n2
  have rd := rless_dims k
  have hll := h.loose_len
  have HFT := Lib.hid (fun j (hj : j ≤ k.n) => firmTo_is k.rless (by rw [rd.2.2.1, rd.1, rd.2.1]; exact h.len) (by rw [rd.1, rd.2.2.2.1, rd.2.1]; exact hll) j (by rw [rd.1]; exact hj))
  have HP := Lib.hid hp
  have HRN := Lib.hid rd.1
  clear h hp rd hll
  generalize k.rless = k0 at HP HFT HRN ⊢
  go_enter Tryz.func20, Tryz.ntmps20
  go_wp2_with (go_at_call 53; go_must (refine HP.out.mono ?_; rintro e wx ⟨rfl, hd, ht⟩; have HD := Lib.hid hd; have HT := Lib.hid ht; clear hd ht))
  go_loopw [3] (fun i' wr => ∃ (j : Nat), j ≤ k.n ∧ i' = .int .i64 (j : Int) ∧ Hid (OnRef X wr r L cap (k0.firmTo j)) ∧ Hid (Touch (fun b => b = r ∨ b = L) w wr)) (fun i' _ => k.n - (intOf i').toNat)
  case atStart => exact ⟨0, Nat.zero_le _, rfl, HD, Lib.hid (HT.out.mono fun _ _ h => .inl h)⟩
  case round =>
    obtain ⟨j, hj, rfl, hd, ht⟩ := hrel
    have hf := HFT.out j hj
    have r1 : wr.cell? ⟨r, 1, none⟩ = some (.slice (some ⟨L, 0, none⟩) (k0.firmTo j).n cap) := blk_cell hd.out.blk 1
    rw [hf.n, HRN.out] at r1
    by_cases hlt : j < k.n
    · have hjk : j < (k0.firmTo j).n := by rw [hf.n, HRN.out]; exact hlt
      have hat := hd.out.at_ j hjk
      have f1 := hat.l
      have HS := Lib.hid (show k0.firmTo (j + 1) = (k0.firmTo j).firm1 j from rfl)
      have HJK := Lib.hid hjk
      clear hf hjk
      generalize k0.firmTo j = k2 at hat f1 HS hd HJK
      cases hlo : k2.loose j with
      | none =>
        rw [hlo] at f1
        have f1 : wr.cell? ⟨L, j * 4 + 1, none⟩ = some (.bool false) := f1
        have HE := Lib.hid (show k2.firm1 j = k2 by rw [Dsk.firm1, hlo])
        clear hat hlo
        go_wp2
        go_roundw
        case rel => exact ⟨j + 1, by omega, by go_num, Lib.hid (by rw [HS.out, HE.out]; exact hd.out), ht⟩
        case measure => simp [intOf]; omega
      | some l =>
        have fn := hat.nw
        rw [hlo] at f1 fn
        obtain ⟨NA, nc, f2, nb, na⟩ := fn
        have f1 : wr.cell? ⟨L, j * 4 + 1, none⟩ = some (.bool true) := f1
        obtain ⟨FA, fc, f0, _, _⟩ := hat.f
        have f3 := hat.b
        generalize Value.bool (k2.bad j) = v3 at f3
        have fz : ∀ o, wr.frozen? ⟨L, o, none⟩ = false := fun o => by obtain ⟨cur, hr1, _⟩ := hd.out.row; exact blk_frozen hr1 o
        have z0 := fz (j * 4)
        have z1 := fz (j * 4 + 1)
        have z2 := fz (j * 4 + 2)
        have z3 := fz (j * 4 + 3)
        have HPS := Lib.hid (hd.out.putSec j HJK.out false nb na)
        have HE := Lib.hid (show k2.firm1 j = k2.sec4 j l false by rw [Dsk.firm1, hlo])
        clear hat nb hlo fz na
        go_wp2
        go_region
        all_goals
          go_wp2
          go_roundw
          case rel => exact ⟨j + 1, by omega, by go_num, Lib.hid (by rw [HS.out, HE.out]; exact HPS.out.1.below ((Below.refl _ _).drew)), Lib.hid ((ht.out.trans (HPS.out.2.mono fun _ _ h => .inr h)).trans (Touch.of_below ((Below.refl _ _).drew)))⟩
          case measure => simp [intOf]; omega
    · obtain rfl : j = k.n := by omega
      go_wp2
      go_ret
      exact ⟨rfl, by rw [Dsk.firm, HRN.out]; exact hd.out, ht.out⟩
theorem RBarrier_power (h : OnRef X w r L cap k) (hon : ¬ k.on) : Calls Tryz.prog 20 #[.pointer (some ⟨r, 0, none⟩)] w fun e w' =>
    e = .returned (.int .i64 82) ∧ OnRef X w' r L cap k ∧ Touch (fun b => b = r ∨ b = L) w w' := by
  have hp := Rpower_ok h
  rw [decide_eq_false hon, if_neg hon] at hp
  have HP := Lib.hid hp
  clear h hp
  go_enter Tryz.func20, Tryz.ntmps20
  go_wp2_with (go_at_call 53; go_must (refine HP.out.mono ?_; rintro e wx ⟨rfl, hd, ht⟩; have HD := Lib.hid hd; have HT := Lib.hid ht; clear hd ht))
  go_ret
  exact ⟨rfl, HD.out, HT.out.mono fun _ _ h => .inl h⟩
end
end Go.Proofs.YtaldjmhikebecaaGreat
