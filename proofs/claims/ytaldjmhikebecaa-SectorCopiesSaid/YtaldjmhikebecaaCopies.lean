/- SectorCopies: its walk: a copy is just like its disk, and what is done to one changes nothing of the other. -/
import Derived.Test.YtaldjmhikebecaaRuns
import Derived.Test.YtaldjmhikebecaaCopy
namespace Go.Proofs.Ytaldjmhikebecaa
open Go Go.RowKit
set_option maxRecDepth 100000
set_option linter.unusedVariables false
attribute [local go_sem] Oper.semAt_some
section
variable {w w' : World} {B c : Nat} {b : Bk} {k : Dsk}
theorem pair_copy (h : Duo w B b c k) : Calls Try.prog 26 #[.pointer (some ⟨b.d, 0, none⟩)] w fun e w1 => ∃ d2, e = .returned (.pointer (some ⟨d2, 0, none⟩)) ∧ Below w.heap.size w w1 ∧
    Calls Try.prog 31 #[.pointer (some ⟨b.r, 0, none⟩)] w1 fun e w2 => ∃ (b2 : Bk) (k2 : Dsk), e = .returned (.pointer (some ⟨b2.r, 0, none⟩)) ∧ b2.d = d2 ∧ Below w.heap.size w w2 ∧ Duo w2 w.heap.size b2 c k2 ∧
      Calls Try.prog 23 #[.pointer (some ⟨d2, 0, none⟩), .pointer (some ⟨b.r, 0, none⟩)] w2 fun e w3 => e = .returned (.bool true) ∧ Below w2.heap.size w2 w3 := by
  obtain ⟨x, hx, hr⟩ := h.ref
  refine (Copy_ok h.dsk).mono ?_
  rintro e w1 ⟨d2, fb2, lb2, bb2, sp, rfl, hd2, ⟨g1, g2, g3, g4⟩, hb1⟩
  refine ⟨d2, rfl, hb1, ?_⟩
  have hl2 := hd2.lts
  have hrl : b.r < w.heap.size := blk_lt hr.blk
  have hLl : b.L < w.heap.size := by obtain ⟨cur, h1, _⟩ := hr.row; exact blk_lt h1
  have hs1 := hb1.size
  have hr1 : OnRef (fun i => (i = d2 ∨ i = fb2) ∨ i = b.r ∨ i = b.L) w1 b.r b.L b.cap { k with left := x } := by
    refine hr.foreign hb1 (.inr (.inl rfl)) (.inr (.inr rfl)) (fun i hi => ?_) (fun i hi => ?_)
    · omega
    · rcases hi with (rfl | rfl) | (rfl | rfl)
      · exact .inr g1
      · exact .inr g2
      · exact .inl hr.xr
      · exact .inl hr.xL
  refine (RCopy_ok hr1).mono ?_
  rintro e w2 ⟨r2, L2, cap2, rfl, q1, q2, q3, q4, hb2, hY⟩
  have hs2 := hb2.size
  refine ⟨⟨d2, fb2, lb2, bb2, r2, L2, cap2⟩, { k with sp := sp }, rfl, rfl, bthen hb1 hb2, ⟨?_, ⟨x, hx, ?_⟩, ?_, ?_⟩, same_ok (B := 0) (b := ⟨d2, fb2, lb2, bb2, b.r, b.L, b.cap⟩) (c := c) (k := { k with sp := sp }) ⟨?_, ⟨x, hx, ?_⟩, ?_, ?_⟩⟩
  · refine hd2.foreign hb2 (.inl (.inl rfl)) (.inl (.inr rfl)) ?_ ?_
    · rintro i ((rfl | rfl) | (rfl | rfl)) <;> (try dsimp only) <;> omega
    · rintro i ((rfl | rfl) | (rfl | rfl))
      · exact .inl (.inl rfl)
      · exact .inl (.inr (.inl rfl))
      · exact .inr q1
      · exact .inr q2
  · refine (hY _ (.inr (.inl rfl)) (.inr (.inr rfl)) ?_ ?_).sp sp
    · rintro i ((rfl | rfl) | (rfl | rfl)) <;> (try dsimp only) <;> omega
    · rintro i ((rfl | rfl) | (rfl | rfl))
      · exact .inl (.inl (.inl rfl))
      · exact .inl (.inl (.inr rfl))
      · exact .inr q1
      · exact .inr q2
  · rintro i ((rfl | rfl | rfl | rfl) | (rfl | rfl)) <;> (try dsimp only) <;> omega
  · rintro i (rfl | rfl | rfl | rfl) (h | h) <;> (try dsimp only at h) <;> omega
  · refine hd2.foreign hb2 (.inl (.inl rfl)) (.inl (.inr rfl)) ?_ ?_
    · rintro i ((rfl | rfl) | (rfl | rfl)) <;> (try dsimp only) <;> omega
    · rintro i ((rfl | rfl) | (rfl | rfl))
      · exact .inl (.inl rfl)
      · exact .inl (.inr (.inl rfl))
      · exact .inl (.inr (.inr hrl))
      · exact .inl (.inr (.inr hLl))
  · refine (hr1.foreign hb2 (Y := fun i => (i = d2 ∨ i = fb2) ∨ i = b.r ∨ i = b.L) (.inr (.inl rfl)) (.inr (.inr rfl)) ?_ (fun i hi => .inl hi)).sp sp
    intro i hi
    omega
  · intro i _
    omega
  · rintro i (rfl | rfl | rfl | rfl) (h | h) <;> (try dsimp only at h) <;> omega
theorem RunsAt.below {j : Nat} (h : RunsAt w B b j) (hb : Below w.heap.size w w') : RunsAt w' B b j := by
  obtain ⟨k, c, hd, hc⟩ := h
  exact ⟨k, c, hd.below hb, hc⟩
theorem runs_copy {j : Nat} (h : RunsAt w B b j) : Calls Try.prog 26 #[.pointer (some ⟨b.d, 0, none⟩)] w fun e w1 => ∃ d2, e = .returned (.pointer (some ⟨d2, 0, none⟩)) ∧ Below w.heap.size w w1 ∧
    Calls Try.prog 31 #[.pointer (some ⟨b.r, 0, none⟩)] w1 fun e w2 => ∃ b2 : Bk, e = .returned (.pointer (some ⟨b2.r, 0, none⟩)) ∧ b2.d = d2 ∧ Below w.heap.size w w2 ∧ RunsAt w2 w.heap.size b2 j ∧
      Calls Try.prog 23 #[.pointer (some ⟨d2, 0, none⟩), .pointer (some ⟨b.r, 0, none⟩)] w2 fun e w3 => e = .returned (.bool true) ∧ Below w2.heap.size w2 w3 := by
  obtain ⟨k, c, hd, hc⟩ := h
  refine (pair_copy hd).mono ?_
  rintro e w1 ⟨d2, rfl, hb1, h2⟩
  refine ⟨d2, rfl, hb1, h2.mono ?_⟩
  rintro e w2 ⟨b2, k2, rfl, rfl, hb2, hd2, h3⟩
  exact ⟨b2, rfl, rfl, hb2, ⟨k2, c, hd2, hc⟩, h3⟩
theorem runs_same2 {j : Nat} (h : RunsAt w B b j) : Calls Try.prog 23 #[.pointer (some ⟨b.d, 0, none⟩), .pointer (some ⟨b.r, 0, none⟩)] w fun e w' => e = .returned (.bool true) ∧ Below w.heap.size w w' := by
  obtain ⟨k, c, hd, _⟩ := h
  exact same_ok hd
end
set_option maxHeartbeats 4000000 in
theorem SectorCopies_walk (w : World) (s : Int) (hs : I64 s) (z : Int) (hz : I64 z) (A : Option Addr) (n c : Nat) (ho : OpsAt w A n c) (A2 : Option Addr) (n2 c2 : Nat) (ho2 : OpsAt w A2 n2 c2) : Calls Try.prog 9 #[.int .i64 s, .int .i64 z, .slice A n c, .slice A2 n2 c2] w (RetTrue w) := by
  have HO := Lib.hid ho
  have HO2 := Lib.hid ho2
  have hn : n ≤ 9223372036854775807 := by have h1 := ho.le; have h2 := ho.max; unfold maxLen at h2; omega
  have hn2 : n2 ≤ 9223372036854775807 := by have h1 := ho2.le; have h2 := ho2.max; unfold maxLen at h2; omega
  clear ho ho2
  by_cases hg : (1 ≤ s ∧ s ≤ 65536) ∧ 1 ≤ z ∧ z ≤ 8192
  · have HGS := Lib.hid hg.1
    have HGZ := Lib.hid hg.2
    clear hg hs hz
    go_enter Try.func9, Try.ntmps9
    go_wp2_with (first
      | (go_at_call 19; go_must (refine (awakeS_true _).mono ?_; rintro e w1 ⟨rfl, hb1⟩; have HB1 := Lib.hid hb1; have HS1 := Lib.hid hb1.size; clear hb1))
      | (go_at_call 20; go_must (refine (begin_good s z _ HGS.out HGZ.out).mono ?_; rintro e w2 ⟨b, k, rfl, hd, _, hb2⟩; have HR2 := Lib.hid (runs_begin (w := w) hd); have HB2 := Lib.hid (below_trans2 HB1.out hb2); clear hb2 hd)))
    go_loopw [12] (fun i' wr => ∃ j : Nat, j ≤ n ∧ j ≤ 150 ∧ i' = .int .i64 (j : Int) ∧ Hid (RunsAt wr w1.heap.size b j) ∧ Hid (Below w.heap.size w wr)) (fun i' _ => 150 - (intOf i').toNat)
    case atStart => exact ⟨0, Nat.zero_le _, by omega, rfl, HR2, HB2⟩
    case round =>
      obtain ⟨j, hj, h150, rfl, hr, hb⟩ := hrel
      by_cases hlt : j < n ∧ j < 150
      · obtain ⟨h1, h2⟩ := hlt
        obtain ⟨ad, rfl, p, q, o, hpq, hoi, hoa⟩ := HO.out.op h1 hb.out
        obtain ⟨o0, o1, o2, o3, o4, o5, o6⟩ := hoi
        have HST := Lib.hid (runs_step hr.out HS1.out hb.out hoa (by omega))
        clear hoa hr
        go_wp2_with (go_at_call 21; go_must (refine HST.out.mono ?_; rintro e w3 ⟨rfl, hr3, hb3, _⟩; have HR3 := Lib.hid hr3; have HB3 := Lib.hid hb3; clear hr3 hb3))
        go_roundw
        case rel => exact ⟨j + 1, by omega, by omega, by go_num, HR3, HB3⟩
        case measure => simp [intOf]; omega
      · have HCP := Lib.hid (runs_copy hr.out)
        clear HR2 HB2 HS1 HB1 HGS HGZ
        rcases (by omega : j = n ∨ (j < n ∧ j = 150)) with hjn | ⟨h1, hjn⟩
        all_goals
          have HJ := Lib.hid h150
          have hg1 : (decide ((j : Int) < (n : Int)) && decide ((j : Int) < 150)) = false := by rw [hjn]; simp
          subst hjn
          clear hg1
          go_wp2_with (first
            | (go_at_call 26; go_must (refine HCP.out.mono ?_; rintro e w3 ⟨d2, rfl, hb3, hc3⟩; have HB3 := Lib.hid hb3; have HC3 := Lib.hid hc3; clear hb3 hc3))
            | (go_at_call 31; go_must (refine HC3.out.mono ?_; rintro e w4 ⟨b2, rfl, rfl, hb4, hr4, hs4⟩; have HB4 := Lib.hid hb4; have HR4 := Lib.hid hr4; have HS4 := Lib.hid hs4; clear hb4 hr4 hs4))
            | (go_at_call 23; go_must (refine HS4.out.mono ?_; rintro e w5 ⟨rfl, hb5⟩; have HB5 := Lib.hid (below_trans2 HB4.out hb5); have HR5 := Lib.hid (HR4.out.below hb5); clear hb5)))
          go_loopw [15] (fun i' wq => ∃ q : Nat, q ≤ n2 ∧ q ≤ 150 ∧ i' = .int .i64 (q : Int) ∧ Hid (∃ j, j ≤ 150 + q ∧ RunsAt wq wr.heap.size b2 j) ∧ Hid (Below wr.heap.size wr wq)) (fun i' _ => 150 - (intOf i').toNat)
          case atStart => exact ⟨0, Nat.zero_le _, by omega, rfl, Lib.hid ⟨_, by have := HJ.out; omega, HR5.out⟩, HB5⟩
          case round =>
            obtain ⟨q, hq, hq150, rfl, hrq, hbq⟩ := hrel
            by_cases hlt : q < n2 ∧ q < 150
            · obtain ⟨h1, h2⟩ := hlt
              obtain ⟨ad, rfl, p, q0, o, hpq, hoi, hoa⟩ := HO2.out.op h1 (below_trans2 hb.out hbq.out)
              obtain ⟨o0, o1, o2, o3, o4, o5, o6⟩ := hoi
              obtain ⟨jj, hjj, hrr⟩ := hrq.out
              have HST := Lib.hid (runs_step hrr (Nat.le_refl _) hbq.out (hoa.below hb.out) (by omega))
              have HJJ := Lib.hid hjj
              clear hoa hrq hrr hjj
              go_wp2_with (go_at_call 21; go_must (refine HST.out.mono ?_; rintro e w7 ⟨rfl, hr7, hb7, _⟩; have HR7 := Lib.hid hr7; have HB7 := Lib.hid hb7; clear hr7 hb7))
              go_roundw
              case rel => exact ⟨q + 1, by omega, by omega, by go_num, Lib.hid ⟨jj + 1, by have := HJJ.out; omega, HR7.out⟩, HB7⟩
              case measure => simp [intOf]; omega
            · have HSD := Lib.hid (runs_same2 (hr.out.below hbq.out))
              obtain ⟨jj, hjj, hrr⟩ := hrq.out
              have HRR := Lib.hid hrr
              clear hrq hrr hjj
              have tok1 : True := trivial
              rcases (by omega : q = n2 ∨ (q < n2 ∧ q = 150)) with hqn | ⟨h2, hqn⟩
              all_goals
                subst hqn
                go_wp2_with (first
                  | (go_at_call 23; have _t := tok1; clear tok1; go_must (clear _t; refine HSD.out.mono ?_; rintro e w8 ⟨rfl, hb8⟩; have HB8 := Lib.hid (below_trans2 hbq.out hb8); have HS8 := Lib.hid (runs_same2 (HRR.out.below hb8)); clear hb8))
                  | (go_at_call 23; go_must (refine HS8.out.mono ?_; rintro e w9 ⟨rfl, hb9⟩; have HB9 := Lib.hid (below_trans2 hb.out (below_trans2 HB8.out hb9)); clear hb9)))
                go_ret
                exact ⟨rfl, HB9.out⟩
  · have HG := Lib.hid hg
    clear hg hs hz
    go_enter Try.func9, Try.ntmps9
    go_wp2_with (first
      | (go_at_call 19; go_must (refine (awakeS_true _).mono ?_; rintro e w1 ⟨rfl, hb1⟩; have HB1 := Lib.hid hb1; clear hb1))
      | (go_at_call 20; go_must (refine (begin_bad s z _ HG.out).mono ?_; rintro e w2 ⟨rfl, hw2⟩; obtain rfl := hw2.symm)))
    go_ret
    exact ⟨rfl, HB1.out⟩
end Go.Proofs.Ytaldjmhikebecaa
