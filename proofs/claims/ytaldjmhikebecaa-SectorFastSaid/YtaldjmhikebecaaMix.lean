/- SectorFast: is one a beginning of what was written, with the rest of what was? -/
import Derived.Test.YtaldjmhikebecaaClone
import Derived.Deep.RegionHeld3
import Derived.MapKept
namespace Go.Proofs.Ytaldjmhikebecaa
open Go Go.RowKit
set_option maxRecDepth 100000
set_option linter.unusedVariables false
attribute [local go_sem] Oper.semAt_some
theorem bytes_ne {a b : ByteArray} (h : ¬ a = b) : (a.toList == b.toList) = false := by
  rw [beq_eq_false_iff_ne]
  intro e
  rw [ByteArray.toList_eq, ByteArray.toList_eq] at e
  exact h (ByteArray.ext (Array.toList_inj.1 e))
theorem cutTo (A : Option Addr) (n c m : Nat) (hm : m ≤ n) (hc : n ≤ c) :
    ∃ A' : Option Addr, (∀ W : World, (Instr.slice 26 (.slice A n c) none (some (.int .i64 (m : Int))) none).run Try.prog W = .ok (.slice A' m c) W) ∧
      (∀ (w : World) (l : List UInt8), Bs w A n c l → Bs w A' m c (l.take m)) := by
  obtain ⟨i, hi, _, hs, _⟩ := info_parts info_u8
  refine ⟨if c = 0 then A else A.map (·.add 0), fun W => ?_, fun w l h => ?_⟩
  · have hel : Try.prog.elem 26 = 5 := by simp [Program.elem, Try.underlying26]
    have hu : Try.prog.underlying 26 = some (.slice (Try.prog.elem 26)) := by rw [hel]; exact Try.underlying26
    rw [run_slice_h W 26 A n c hu .i64 (m : Int) (Int.natCast_nonneg _) (by omega), hel]
    simp [sizeOf, typeInfo, hi, hs, sliced, Result.andThen]
  · have e : (if c = 0 then A else A.map (·.add 0)) = A := by
      split
      · rfl
      · cases A <;> rfl
    rw [e]
    exact h.take hm c (by omega) h.2.2.1
set_option maxHeartbeats 4000000 in
theorem mixed_ok (w : World) (A1 A2 A3 : Option Addr) (n c1 c2 c3 : Nat) (x o b : List UInt8) (h1 : Bs w A1 n c1 x) (h2 : Bs w A2 n c2 o) (h3 : Bs w A3 n c3 b) (n0 : Nat) (hn0 : n0 ≤ n) (ht : x.take n0 = b.take n0) (hd : x.drop n0 = o.drop n0) :
    Calls Try.prog 30 #[.slice A1 n c1, .slice A2 n c2, .slice A3 n c3] w fun e w' => e = .returned (.bool true) ∧ Below w.heap.size w w' := by
  have hn := h1.i64
  have l1 := h1.2.1
  have l2 := h2.2.1
  have l3 := h3.2.1
  have H1 := Lib.hid h1
  have H2 := Lib.hid h2
  have H3 := Lib.hid h3
  have HT := Lib.hid ht
  have HDD := Lib.hid hd
  clear h1 h2 h3 ht hd
  go_enter Try.func30, Try.ntmps30
  go_wp2
  go_loopw [7] (fun i' wr => ∃ m : Nat, m ≤ n0 ∧ i' = .int .i64 (m : Int) ∧ Hid (Below w.heap.size w wr)) (fun i' _ => n0 - (intOf i').toNat)
  case atStart => exact ⟨0, Nat.zero_le _, rfl, Lib.hid (Below.refl _ _)⟩
  case round =>
    obtain ⟨m, hm, rfl, hb⟩ := hrel
    have hmn : m ≤ n := by omega
    obtain ⟨P1, p1, q1⟩ := cutTo A1 n c1 m hmn l1
    obtain ⟨P3, p3, q3⟩ := cutTo A3 n c3 m hmn l3
    obtain ⟨R1, r1, s1, _⟩ := cutB A1 n c1 m hmn
    obtain ⟨R2, r2, s2, _⟩ := cutB A2 n c2 m hmn
    have e1 := run_string_bytes (P := Try.prog) 26 9 5 Try.underlying26 Try.underlying9 Try.underlying5 ((q1 wr x (H1.out.below hb.out)).drew)
    have e2 := run_string_bytes (P := Try.prog) 26 9 5 Try.underlying26 Try.underlying9 Try.underlying5 ((q3 wr b (H3.out.below hb.out)).drew)
    have e3 := run_string_bytes (P := Try.prog) 26 9 5 Try.underlying26 Try.underlying9 Try.underlying5 ((s1 wr x (H1.out.below hb.out)).drew)
    have e4 := run_string_bytes (P := Try.prog) 26 9 5 Try.underlying26 Try.underlying9 Try.underlying5 ((s2 wr o (H2.out.below hb.out)).drew)
    obtain ⟨t1, ht1⟩ : ∃ t1, t1 = strB (x.take m) := ⟨_, rfl⟩
    obtain ⟨t2, ht2⟩ : ∃ t2, t2 = strB (b.take m) := ⟨_, rfl⟩
    obtain ⟨t3, ht3⟩ : ∃ t3, t3 = strB (x.drop m) := ⟨_, rfl⟩
    obtain ⟨t4, ht4⟩ : ∃ t4, t4 = strB (o.drop m) := ⟨_, rfl⟩
    rw [← ht1] at e1
    rw [← ht2] at e2
    rw [← ht3] at e3
    rw [← ht4] at e4
    have hA : x.take m = b.take m ↔ t1 = t2 := ⟨fun h => by rw [ht1, ht2, h], fun h => strB_inj (by rw [← ht1, ← ht2, h])⟩
    have hB : x.drop m = o.drop m ↔ t3 = t4 := ⟨fun h => by rw [ht3, ht4, h], fun h => strB_inj (by rw [← ht3, ← ht4, h])⟩
    have HE1 := Lib.hid (fun N => by have := run_string_bytes (P := Try.prog) 26 9 5 Try.underlying26 Try.underlying9 Try.underlying5 ((q1 wr x (H1.out.below hb.out)).drewN N); rw [← ht1] at this; exact this)
    have HE2 := Lib.hid (fun N => by have := run_string_bytes (P := Try.prog) 26 9 5 Try.underlying26 Try.underlying9 Try.underlying5 ((q3 wr b (H3.out.below hb.out)).drewN N); rw [← ht2] at this; exact this)
    have HA := Lib.hid hA
    have HB := Lib.hid hB
    have hS0 := And.intro e1 (And.intro e2 (And.intro e3 e4))
    clear hA hB ht1 ht2 ht3 ht4 q1 q3 s1 s2 e1 e2 e3 e4
    have hfin : t1 = t2 ∧ t3 = t4 ∨ (¬ (t1 = t2 ∧ t3 = t4) ∧ m < n0) := by
      by_cases h : t1 = t2 ∧ t3 = t4
      · exact .inl h
      · refine .inr ⟨h, ?_⟩
        rcases Nat.lt_or_ge m n0 with h1 | h1
        · exact h1
        · obtain rfl : m = n0 := by omega
          exact absurd ⟨HA.out.1 HT.out, HB.out.1 HDD.out⟩ h
    rcases hfin with ⟨rfl, rfl⟩ | ⟨hno, hlt⟩
    · clear HA HB
      go_wp2
      go_region_held3 (fun w' => (convert 26 9 (.slice P1 m c1)).run Try.prog w' = .ok (.string t1) w' ∧ (convert 26 9 (.slice P3 m c3)).run Try.prog w' = .ok (.string t1) w' ∧ (convert 26 9 (.slice R1 (n - m) (c1 - m))).run Try.prog w' = .ok (.string t3) w' ∧ (convert 26 9 (.slice R2 (n - m) (c2 - m))).run Try.prog w' = .ok (.string t3) w') (assumption) (fail)
      go_wp2
      go_ret
      exact ⟨rfl, (hb.out).drew⟩
    · have hno' : t1 = t2 → t3 = t4 → False := fun a b => hno ⟨a, b⟩
      by_cases h12 : t1 = t2
      · have h34 : ¬ t3 = t4 := fun h => hno ⟨h12, h⟩
        subst h12
        have g34 : (t3.toList == t4.toList) = false := bytes_ne h34
        clear hno hno' HA HB
        go_wp2
        go_region_held3 (fun w' => (convert 26 9 (.slice P1 m c1)).run Try.prog w' = .ok (.string t1) w' ∧ (convert 26 9 (.slice P3 m c3)).run Try.prog w' = .ok (.string t1) w' ∧ (convert 26 9 (.slice R1 (n - m) (c1 - m))).run Try.prog w' = .ok (.string t3) w' ∧ (convert 26 9 (.slice R2 (n - m) (c2 - m))).run Try.prog w' = .ok (.string t4) w') (assumption) (fail)
        go_wp2
        go_roundw
        case rel => exact ⟨m + 1, by omega, by go_num, Lib.hid (hb.out).drew⟩
        case measure => simp [intOf]; omega
      · have g12 : (t1.toList == t2.toList) = false := bytes_ne h12
        obtain ⟨e1, e2, e3, e4⟩ := hS0
        have e1' := fun N => HE1.out N
        have e2' := fun N => HE2.out N
        clear hno hno' HA HB
        go_wp2
        go_quiet (fail)
        rename_i nq
        go_wp2
        go_roundw
        case rel => exact ⟨m + 1, by omega, by go_num, Lib.hid (below_drewN hb.out nq)⟩
        case measure => simp [intOf]; omega
end Go.Proofs.Ytaldjmhikebecaa
