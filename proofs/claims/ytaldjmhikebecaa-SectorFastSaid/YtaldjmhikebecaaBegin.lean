/- Layer 8 (sector): a disk of both is made (the law's begin); both hold the same (the law's same). -/
import Derived.Test.YtaldjmhikebecaaStep
import Derived.Test.YtaldjmhikebecaaNewB
import Derived.Test.YtaldjmhikebecaaNew
namespace Go.Proofs.Ytaldjmhikebecaa
open Go Go.RowKit
set_option maxRecDepth 100000
set_option linter.unusedVariables false
attribute [local go_sem] Oper.semAt_some
theorem New_okI (n s : Int) (w : World) (hn : 1 ≤ n ∧ n ≤ 65536) (hs : 1 ≤ s ∧ s ≤ 8192) : Calls Try.prog 37 #[.int .i64 n, .int .i64 s] w (MadeDisk w n.toNat s.toNat) := by
  obtain ⟨n, rfl⟩ := Int.eq_ofNat_of_zero_le (show 0 ≤ n by omega)
  obtain ⟨s, rfl⟩ := Int.eq_ofNat_of_zero_le (show 0 ≤ s by omega)
  exact New_ok n s w (by omega) (by omega) (by omega) (by omega)
theorem RNew_okI (X : Nat → Prop) (n s : Int) (w : World) (hX : ∀ b, X b → b < w.heap.size) (hn : 1 ≤ n ∧ n ≤ 65536) (hs : 1 ≤ s ∧ s ≤ 8192) : Calls Try.prog 54 #[.int .i64 n, .int .i64 s] w (MadeRef X w n.toNat s.toNat) := by
  obtain ⟨n, rfl⟩ := Int.eq_ofNat_of_zero_le (show 0 ≤ n by omega)
  obtain ⟨s, rfl⟩ := Int.eq_ofNat_of_zero_le (show 0 ≤ s by omega)
  exact RNew_ok X n s w hX (by omega) (by omega) (by omega) (by omega)
def RetBegin (w : World) (e : Ending) (w' : World) : Prop := ∃ b k, e = .returned (.tuple #[.pointer (some ⟨Bk.d b, 0, none⟩), .pointer (some ⟨b.r, 0, none⟩), .bool true]) ∧ Duo w' w.heap.size b 0 k ∧ k.n ≤ 64 ∧ Below w.heap.size w w'
theorem duo_made {w w1 w2 : World} {d fb lb bb r L cap n s : Nat} (hd : OnDisk (fun b => b = d ∨ b = fb) w1 d fb lb bb 0 (Dsk.new n s)) (hg : w.heap.size ≤ d ∧ w.heap.size ≤ fb ∧ w.heap.size ≤ lb ∧ w.heap.size ≤ bb) (hb1 : Below w.heap.size w w1)
    (hr : OnRef (fun b => (b = d ∨ b = fb) ∨ b = r ∨ b = L) w2 r L cap (Dsk.new n s)) (hg2 : w1.heap.size ≤ r ∧ w1.heap.size ≤ L) (hb2 : Below w1.heap.size w1 w2) (hn : n ≤ 64) : RetBegin w (.returned (.tuple #[.pointer (some ⟨d, 0, none⟩), .pointer (some ⟨r, 0, none⟩), .bool true])) w2 := by
  have hl := hd.lts
  have hs1 := hb1.size
  have hrl := blk_lt hr.blk
  have hLl : L < w2.heap.size := by obtain ⟨cur, h1, _⟩ := hr.row; exact blk_lt h1
  refine ⟨⟨d, fb, lb, bb, r, L, cap⟩, Dsk.new n s, rfl, ⟨?_, ⟨0, fun _ => rfl, hr⟩, ?_, ?_⟩, hn, hb1.trans (hb2.mono hs1)⟩
  · refine hd.widen hb2 (fun b h => .inl h) (fun b h => ?_)
    rcases h with h | rfl | rfl
    · exact .inl h
    · exact .inr ⟨hg2.1, hrl⟩
    · exact .inr ⟨hg2.2, hLl⟩
  · rintro i ((rfl | rfl | rfl | rfl) | (rfl | rfl)) <;> (try dsimp only at *) <;> omega
  · rintro i (rfl | rfl | rfl | rfl) (h | h) <;> (try dsimp only at h) <;> omega
set_option maxHeartbeats 1000000 in
theorem begin_good (s z : Int) (w : World) (hs : 1 ≤ s ∧ s ≤ 65536) (hz : 1 ≤ z ∧ z ≤ 8192) : Calls Try.prog 20 #[.int .i64 s, .int .i64 z] w (RetBegin w) := by
  have e64 : Int.toNat 64 = 64 := rfl
  rcases (by omega : s ≤ 64 ∨ 64 < s) with h1 | h1 <;> rcases (by omega : z ≤ 64 ∨ 64 < z) with h2 | h2
  all_goals
    go_enter Try.func20, Try.ntmps20
    go_wp2_with (first
      | (go_at_call 37; go_must (refine (New_okI _ _ _ (by omega) (by omega)).mono ?_; rintro e w1 ⟨d, fb, lb, bb, rfl, hd, hg, hb1⟩; have HD := Lib.hid hd; have HG := Lib.hid hg; have HB1 := Lib.hid hb1; clear hd hg hb1))
      | (go_at_call 54; go_must (refine (RNew_okI (fun b => b = d ∨ b = fb) _ _ _ HD.out.xlt (by omega) (by omega)).mono ?_; rintro e w2 ⟨r, L, cap, rfl, hr, hg2, hb2⟩; have HR := Lib.hid hr; have HG2 := Lib.hid hg2; have HB2 := Lib.hid hb2; clear hr hg2 hb2)))
    go_returns
    exact duo_made HD.out HG.out HB1.out HR.out HG2.out HB2.out (by omega)
set_option maxHeartbeats 1000000 in
theorem begin_bad (s z : Int) (w : World) (h : ¬ ((1 ≤ s ∧ s ≤ 65536) ∧ 1 ≤ z ∧ z ≤ 8192)) : Calls Try.prog 20 #[.int .i64 s, .int .i64 z] w fun e w' => e = .returned (.tuple #[.pointer none, .pointer none, .bool true]) ∧ w' = w := by
  rcases (by omega : s ≤ 64 ∨ (64 < s ∧ s ≤ 65536) ∨ (64 < s ∧ 65536 < s)) with h1 | ⟨h1, h1'⟩ | ⟨h1, h1'⟩ <;> rcases (by omega : z ≤ 64 ∨ (64 < z ∧ z ≤ 8192) ∨ (64 < z ∧ 8192 < z)) with h2 | ⟨h2, h2'⟩ | ⟨h2, h2'⟩
  all_goals try (exfalso; omega)
  all_goals
    have H := Lib.hid h
    clear h
    go_enter Try.func20, Try.ntmps20
    go_wp2_with (first
      | (go_at_call 37; go_must (refine (New_bad _ _ _ (by have := H.out; omega)).mono ?_; rintro e wx ⟨rfl, hwx⟩; obtain rfl := hwx.symm))
      | (go_at_call 54; go_must (refine (RNew_bad _ _ _ (by have := H.out; omega)).mono ?_; rintro e wx ⟨rfl, hwx⟩; obtain rfl := hwx.symm)))
    go_returns
    exact ⟨rfl, rfl⟩
section
variable {w w' : World} {B c : Nat} {b : Bk} {k : Dsk}
/-- One sector, read by both: two slices of the same bytes, or both none. -/
theorem read_one (h : Duo w B b c k) (j : Nat) (hj : j < k.n) : ∃ l : List UInt8, ∃ z : Int, ∀ w1, Below w.heap.size w w1 →
    (Calls Try.prog 22 #[.pointer (some ⟨b.d, 0, none⟩), .int .i64 (j : Int), .int .i64 1] w1 fun e w2 => ∃ A n c, e = .returned (.tuple #[.slice A n c, .int .i64 z]) ∧ Bs w2 A n c l ∧ Below w1.heap.size w1 w2) ∧
    (Calls Try.prog 55 #[.pointer (some ⟨b.r, 0, none⟩), .int .i64 (j : Int), .int .i64 1] w1 fun e w2 => ∃ A n c, e = .returned (.tuple #[.slice A n c, .int .i64 z]) ∧ Bs w2 A n c l ∧ Below w1.heap.size w1 w2) := by
  obtain ⟨x, hx, hr⟩ := h.ref
  cases hrd : k.read j 1 with
  | none =>
    refine ⟨[], 81, fun w1 hb => ⟨?_, ?_⟩⟩
    · refine (retRead_none (Read_ok (h.dsk.below hb) j 1 (by omega)) hrd).mono ?_
      rintro e w2 ⟨rfl, hb2⟩
      exact ⟨none, 0, 0, rfl, Rd.nil _ _ _ _ (by decide), hb2⟩
    · refine (retRead_none (RRead_ok (hr.below hb) j 1 (by show j + 1 ≤ k.n; omega)) ((read_left _ _ _ _).trans hrd)).mono ?_
      rintro e w2 ⟨rfl, hb2⟩
      exact ⟨none, 0, 0, rfl, Rd.nil _ _ _ _ (by decide), hb2⟩
  | some l => exact ⟨l, 0, fun w1 hb => ⟨retRead_some (Read_ok (h.dsk.below hb) j 1 (by omega)) hrd, retRead_some (RRead_ok (hr.below hb) j 1 (by show j + 1 ≤ k.n; omega)) ((read_left _ _ _ _).trans hrd)⟩⟩
set_option maxHeartbeats 2000000 in
theorem same_ok (h : Duo w B b c k) : Calls Try.prog 23 #[.pointer (some ⟨b.d, 0, none⟩), .pointer (some ⟨b.r, 0, none⟩)] w fun e w' => e = .returned (.bool true) ∧ Below w.heap.size w w' := by
  obtain ⟨x, hx, hr⟩ := h.ref
  have hn2 := h.dsk.n2
  have hc : ∀ w1, Below w.heap.size w w1 → w1.cell? ⟨b.r, 0, none⟩ = some (.int .i64 (k.size : Int)) ∧ w1.cell? ⟨b.r, 1, none⟩ = some (.slice (some ⟨b.L, 0, none⟩) k.n b.cap) := fun w1 hb => ⟨blk_cell (hr.below hb).blk 0, blk_cell (hr.below hb).blk 1⟩
  have HC := Lib.hid hc
  have HR := Lib.hid hr
  have HD := Lib.hid h
  have HN2 := Lib.hid hn2
  have HSH := Lib.hid (Shape_ok h.dsk)
  have HRO := Lib.hid (fun j hj => read_one h j hj)
  clear h hx hr hc
  go_enter Try.func23, Try.ntmps23
  go_wp2_with (first
    | (go_at_call 32; go_must (refine HSH.out.mono ?_; rintro e w0 ⟨rfl, hb0⟩; have HB0 := Lib.hid hb0; obtain ⟨c0, c1⟩ := HC.out w0 hb0; have HLO := Lib.hid (Loose_ok (HD.out.dsk.below hb0)); clear hb0))
    | (go_at_call 28; go_must (refine HLO.out.mono ?_; rintro e w1 ⟨A1, c1', rfl, ho1, hb1⟩; have HO1 := Lib.hid (Rd.of_own ho1); have HBL1 := Lib.hid (below_trans2 HB0.out hb1); have HRL := Lib.hid (RLoose_ok (HR.out.below (below_trans2 HB0.out hb1))); clear ho1 hb1))
    | (go_at_call 63; go_must (refine HRL.out.mono ?_; rintro e w2 ⟨A2, c2, rfl, ho2, hb2⟩; have HO2 := Lib.hid (Rd.of_own ho2); have HBL2 := Lib.hid (below_trans2 HBL1.out hb2); have HO12 := Lib.hid (HO1.out.below hb2); clear ho2 hb2))
    | (go_at_call 62; go_must (refine (Same_true A1 A2 _ c1' c2 (ints k.looseL) _ HO12.out HO2.out (ints_i64 HN2.out)).mono ?_; rintro e w3 ⟨rfl, hb3⟩; have HBE := Lib.hid (below_trans2 HBL2.out hb3); clear hb3)))
  go_loopw [7] (fun i' wr => ∃ j : Nat, j ≤ k.n ∧ i' = .int .i64 (j : Int) ∧ Hid (Below w.heap.size w wr)) (fun i' _ => k.n - (intOf i').toNat)
  case atStart => exact ⟨0, Nat.zero_le _, rfl, HBE⟩
  case round =>
    obtain ⟨j, hj, rfl, hb⟩ := hrel
    by_cases hlt : j < k.n
    · obtain ⟨l, z, hrr⟩ := HRO.out j hlt
      have HRR := Lib.hid hrr
      have HR1 := Lib.hid (HRR.out wr hb.out).1
      obtain ⟨s, hs⟩ : ∃ s, s = strB l := ⟨_, rfl⟩
      have HS := Lib.hid hs
      clear hrr hs
      go_wp2_with (first
        | (go_at_call 22; go_must (refine HR1.out.mono ?_; rintro e w1 ⟨A5, m5, c5, rfl, hs5, hb5⟩; have HB5 := Lib.hid (below_trans2 hb.out hb5); have HS5 := Lib.hid hs5; have HR2 := Lib.hid (HRR.out w1 (below_trans2 hb.out hb5)).2; clear hb5 hs5))
        | (go_at_call 55; go_must (refine HR2.out.mono ?_; rintro e w2 ⟨A6, m6, c6, rfl, hs6, hb6⟩; have HB6 := Lib.hid (below_trans2 HB5.out hb6); have e1 := run_string_bytes (P := Try.prog) 26 9 5 Try.underlying26 Try.underlying9 Try.underlying5 (HS5.out.below hb6); have e2 := run_string_bytes (P := Try.prog) 26 9 5 Try.underlying26 Try.underlying9 Try.underlying5 hs6; rw [← HS.out] at e1 e2; clear hb6 hs6)))
      go_roundw
      case rel => exact ⟨j + 1, by omega, by go_num, HB6⟩
      case measure => simp [intOf]; omega
    · obtain rfl : j = k.n := by omega
      go_wp2
      go_ret
      exact ⟨rfl, hb.out⟩
end
end Go.Proofs.Ytaldjmhikebecaa
