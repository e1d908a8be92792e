/- SectorRows: its walk: several sectors are read as each alone. -/
import Derived.Test.YtaldjmhikebecaaRuns
namespace Go.Proofs.Ytaldjmhikebecaa
open Go Go.RowKit
set_option maxRecDepth 100000
set_option linter.unusedVariables false
attribute [local go_sem] Oper.semAt_some eq_nil_bytes
theorem read_parts {k : Dsk} {i n : Nat} {L : List UInt8} (h : k.read i n = some L) {j : Nat} (hj : j < n) : ∃ s, k.read (i + j) 1 = some s ∧ ∀ l, k.read i j = some l → k.read i (j + 1) = some (l ++ s) := by
  cases hs : k.sec (i + j) with
  | none =>
    have : k.read i (j + 1) = none := by
      simp only [Dsk.read]
      rw [hs]
      cases k.read i j <;> rfl
    rw [read_none this hj] at h
    cases h
  | some s =>
    refine ⟨s, ?_, fun l hl => ?_⟩
    · simp only [Dsk.read]
      rw [Nat.add_zero, hs]
      rfl
    · simp only [Dsk.read]
      rw [hl, hs]
section
variable {w w' : World} {d fb lb bb c : Nat} {k : Dsk} {X : Nat → Prop}
theorem retRead_row {f : Nat} {ps : Array Value} {i m : Nat} {l : List UInt8} (h : Calls Try.prog f ps w (RetRead w k i m)) (hr : k.read i m = some l) (n : Nat) (hn : n = m * k.size) : Calls Try.prog f ps w fun e w' => ∃ A c, e = .returned (.tuple #[.slice A n c, .int .i64 0]) ∧ Bs w' A n c l ∧ Below w.heap.size w w' :=
  h.mono fun e w' h => by
    unfold RetRead at h
    rw [hr] at h
    subst hn
    obtain ⟨A, c, he, ho, hb⟩ := h
    exact ⟨A, c, he, Bs.of_own ho, hb⟩
/-- Sectors are read, or they are not. -/
theorem read_cases (h : OnDisk X w d fb lb bb c k) (i n : Int) (hi : I64 i) (hn : I64 n) :
    (∃ z : Int, z ≠ 0 ∧ Calls Try.prog 22 #[.pointer (some ⟨d, 0, none⟩), .int .i64 i, .int .i64 n] w fun e w' => e = .returned (.tuple #[.slice none 0 0, .int .i64 z]) ∧ Below w.heap.size w w') ∨
    (∃ (i' n' : Nat) (L : List UInt8), i = i' ∧ n = n' ∧ i' + n' ≤ k.n ∧ k.read i' n' = some L ∧ ∃ m, m ≤ 1073741824 ∧ Calls Try.prog 22 #[.pointer (some ⟨d, 0, none⟩), .int .i64 i, .int .i64 n] w fun e w' => ∃ A c, e = .returned (.tuple #[.slice A m c, .int .i64 0]) ∧ Bs w' A m c L ∧ Below w.heap.size w w') := by
  by_cases hin : 0 ≤ i ∧ 0 ≤ n ∧ i ≤ k.n ∧ n ≤ k.n - i
  · obtain ⟨i, rfl⟩ := Int.eq_ofNat_of_zero_le hin.1
    obtain ⟨n, rfl⟩ := Int.eq_ofNat_of_zero_le hin.2.1
    have him : i + n ≤ k.n := by omega
    cases hrd : k.read i n with
    | none => exact .inl ⟨81, by decide, retRead_none (Read_ok h i n him) hrd⟩
    | some L =>
      have h1 : n * k.size ≤ 65536 * 8192 := Nat.mul_le_mul (by have := h.n2; omega) h.s2
      exact .inr ⟨i, n, L, rfl, rfl, him, hrd, n * k.size, by omega, retRead_row (Read_ok h i n him) hrd _ rfl⟩
  · exact .inl ⟨5, by decide, (Read_range h i n hi hin).mono fun e w' h => ⟨h.1, by rw [h.2]; exact Below.refl _ _⟩⟩
end
set_option maxHeartbeats 4000000 in
theorem SectorRows_walk (w : World) (s : Int) (hs : I64 s) (z : Int) (hz : I64 z) (A : Option Addr) (n c : Nat) (ho : OpsAt w A n c) (i : Int) (hi : I64 i) (m : Int) (hm : I64 m) : Calls Try.prog 6 #[.int .i64 s, .int .i64 z, .slice A n c, .int .i64 i, .int .i64 m] w (RetTrue w) := by
  have HO := Lib.hid ho
  have hn : n ≤ 9223372036854775807 := by have h1 := ho.le; have h2 := ho.max; unfold maxLen at h2; omega
  have HI := Lib.hid hi
  have HM := Lib.hid hm
  clear ho
  by_cases hg : (1 ≤ s ∧ s ≤ 65536) ∧ 1 ≤ z ∧ z ≤ 8192
  · have HGS := Lib.hid hg.1
    have HGZ := Lib.hid hg.2
    clear hg hs hz hi hm
    go_enter Try.func6, Try.ntmps6
    go_wp2_with (first
      | (go_at_call 19; go_must (refine (awakeS_true _).mono ?_; rintro e w1 ⟨rfl, hb1⟩; have HB1 := Lib.hid hb1; have HS1 := Lib.hid hb1.size; clear hb1))
      | (go_at_call 20; go_must (refine (begin_good s z _ HGS.out HGZ.out).mono ?_; rintro e w2 ⟨b, k, rfl, hd, _, hb2⟩; have HR2 := Lib.hid (runs_begin (w := w) hd); have HB2 := Lib.hid (below_trans2 HB1.out hb2); clear hb2 hd)))
    go_loopw [14] (fun i' wr => ∃ j : Nat, j ≤ n ∧ j ≤ 150 ∧ i' = .int .i64 (j : Int) ∧ Hid (RunsAt wr w1.heap.size b j) ∧ Hid (Below w.heap.size w wr)) (fun i' _ => 150 - (intOf i').toNat)
    case atStart => exact ⟨0, Nat.zero_le _, by omega, rfl, HR2, HB2⟩
    case round =>
      obtain ⟨j, hj, h150, rfl, hr, hb⟩ := hrel
      by_cases hlt : j < n ∧ j < 150
      · obtain ⟨h1, h2⟩ := hlt
        obtain ⟨ad, rfl, p, q, o, hpq, hoi, hoa⟩ := HO.out.op h1 hb.out
        obtain ⟨o0, o1, o2, o3, o4, o5, o6⟩ := hoi
        have HST := Lib.hid (runs_step hr.out HS1.out hb.out hoa (by omega))
        clear hoa hr
        go_wp2_with (go_at_call 21; go_must (refine HST.out.mono ?_; rintro e w3 ⟨rfl, hr3, hb3, _⟩; have HR3 := Lib.hid hr3; have HB3 := Lib.hid hb3; clear hr3 hb3))
        go_roundw
        case rel => exact ⟨j + 1, by omega, by omega, by go_num, HR3, HB3⟩
        case measure => simp [intOf]; omega
      · obtain ⟨k', c', hdu, _⟩ := hr.out
        have HD := Lib.hid hdu.dsk
        clear hdu hr HR2 HB2 HS1 HB1 HGS HGZ
        rcases (by omega : j = n ∨ (j < n ∧ j = 150)) with rfl | ⟨h1, rfl⟩
        all_goals
          rcases read_cases HD.out i m HI.out HM.out with ⟨z1, hz1, hrd⟩ | ⟨i', m', L, rfl, rfl, him, hL, mm, hmm, hrd⟩
          · have HRD := Lib.hid hrd
            clear hrd
            go_wp2_with (go_at_call 22; go_must (refine HRD.out.mono ?_; rintro e w3 ⟨rfl, hb3⟩; have HB3 := Lib.hid (below_trans2 hb.out hb3); clear hb3))
            go_ret
            exact ⟨rfl, HB3.out⟩
          · have HRD := Lib.hid hrd
            have HL := Lib.hid hL
            have hs2 := HD.out.s2
            have hn2 := HD.out.n2
            have HIM := Lib.hid him
            clear hrd hL
            go_wp2_with (go_at_call 22; go_must (refine HRD.out.mono ?_; rintro e w3 ⟨AL, cL, rfl, hsL, hb3⟩; have HSL := Lib.hid hsL; have HB3 := Lib.hid (below_trans2 hb.out hb3); have HD3 := Lib.hid (HD.out.below hb3); clear hb3 hsL))
            go_loopw [17, 18] (fun u q' wq => ∃ (q p : Nat) (A' : Option Addr) (c' : Nat), q ≤ m' ∧ q' = .int .i64 (q : Int) ∧ u = .slice A' p c' ∧ Hid (p = q * k'.size) ∧ Hid (∃ l, k'.read i' q = some l ∧ wq.ownsRow w3.heap.size 5 1 (.slice A' p c') p (bytes l)) ∧ Hid (Below w3.heap.size w3 wq)) (fun _ q' _ => m' - (intOf q').toNat)
            case atStart => exact ⟨0, 0, none, 0, Nat.zero_le _, rfl, rfl, Lib.hid (by omega), Lib.hid ⟨[], rfl, World.ownsRow_nil _ _ _ _⟩, Lib.hid (Below.refl _ _)⟩
            case round =>
              obtain ⟨q, p, A', c', hq, rfl, rfl, hp, hown, hbel⟩ := hrel
              obtain ⟨l, hrd, how⟩ := hown.out
              clear hown
              have HLQ := Lib.hid hrd
              have HOW := Lib.hid how
              clear hrd how
              by_cases hlt : q < m'
              · obtain ⟨sl, hs1, hs3⟩ := read_parts HL.out hlt
                obtain ⟨x, hx⟩ : ∃ x, x = i' + q := ⟨_, rfl⟩
                have hwx : IntKind.i64.wrap ((i' : Int) + (q : Int)) = (x : Int) := by rw [IntKind.wrap_i64]; omega
                rw [← hx] at hs1
                have HR1 := Lib.hid (retRead_row (Read_ok (HD3.out.below hbel.out) x 1 (by have := HIM.out; omega)) hs1 k'.size (by omega))
                have HNX := Lib.hid (hs3 l HLQ.out)
                have hpb : p + k'.size ≤ 1073741824 := by
                  have h1 : q * k'.size ≤ 65536 * 8192 := Nat.mul_le_mul (by have := HIM.out; omega) hs2
                  rw [hp.out]
                  omega
                have HPB := Lib.hid hpb
                clear hx hs1 hs3 hpb
                go_wp2_with (first
                  | (go_at_call 22; go_must (refine HR1.out.mono ?_; rintro e w5 ⟨A5, c5, rfl, hs5, hb5⟩; have HS5 := Lib.hid hs5; have HB5 := Lib.hid hb5; clear hs5 hb5))
                  | (at_builtin; go_must (refine wpList_append_rd rfl _ _ _ 5 rfl (.int .u8 0) 1 1 Try.underlying26 info_u8 rfl (by decide) (own_below HOW.out HB5.out) rfl (HS5.out) rfl (bytes_oneCell _) ?_ ?c1 ?c2 ?c3; intro A1 c1 w1 ho1 hg1)))
                case c1 => have := HPB.out; omega
                case c2 => have := HPB.out; unfold maxLen; omega
                case c3 => have := hbel.out.size; have := HB5.out.size; omega
                go_roundw
                case rel =>
                  rw [← bytes_append] at ho1
                  exact ⟨q + 1, p + k'.size, A1, c1, by omega, by go_num, rfl, Lib.hid (by rw [hp.out, Nat.add_mul, Nat.one_mul]), Lib.hid ⟨_, HNX.out, ho1⟩, Lib.hid (below_grown (bthen hbel.out HB5.out) hg1.g (own_below HOW.out HB5.out) (Nat.le_refl _))⟩
                case measure => simp [intOf]; omega
              · obtain rfl : q = m' := by omega
                have hlL : l = L := by have := HLQ.out.symm.trans HL.out; injection this
                subst hlL
                obtain ⟨ss, hss⟩ : ∃ ss, ss = strB l := ⟨_, rfl⟩
                have e1 := run_string_bytes (P := Try.prog) 26 9 5 Try.underlying26 Try.underlying9 Try.underlying5 (Bs.of_own HOW.out)
                have e2 := run_string_bytes (P := Try.prog) 26 9 5 Try.underlying26 Try.underlying9 Try.underlying5 (HSL.out.below hbel.out)
                rw [← hss] at e1 e2
                clear hss
                go_wp2_with fail
                go_ret
                exact ⟨rfl, below_trans2 HB3.out hbel.out⟩
  · have HG := Lib.hid hg
    clear hg hs hz hi hm
    go_enter Try.func6, Try.ntmps6
    go_wp2_with (first
      | (go_at_call 19; go_must (refine (awakeS_true _).mono ?_; rintro e w1 ⟨rfl, hb1⟩; have HB1 := Lib.hid hb1; clear hb1))
      | (go_at_call 20; go_must (refine (begin_bad s z _ HG.out).mono ?_; rintro e w2 ⟨rfl, hw2⟩; obtain rfl := hw2.symm)))
    go_ret
    exact ⟨rfl, HB1.out⟩
end Go.Proofs.Ytaldjmhikebecaa
