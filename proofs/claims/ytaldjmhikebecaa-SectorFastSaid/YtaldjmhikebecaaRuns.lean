/- SectorRuns: its walk: what any calls make of any disk. -/
import Derived.Test.YtaldjmhikebecaaBegin
import Derived.Test.YtaldjmhikebecaaOps
import Derived.Test.YtaldjmhikebecaaAwakeS
import Derived.Test.YtaldjmhikebecaaTrue
namespace Go.Proofs.Ytaldjmhikebecaa
open Go Go.RowKit
set_option maxRecDepth 100000
set_option linter.unusedVariables false
attribute [local go_sem] Oper.semAt_some
/-- Behind so many calls both disks hold the same still; B: what lay there before them. -/
def RunsAt (w : World) (B : Nat) (b : Bk) (j : Nat) : Prop := ∃ k c, Duo w B b c k ∧ c ≤ j * 65537
theorem OpAt.lt {w : World} {o : OpV} (h : OpAt w o) : (0 < o.bn → ∀ ad, o.BA = some ad → ad.block < w.heap.size) ∧ (0 < o.kn → ∀ ad, o.KA = some ad → ad.block < w.heap.size) := by
  refine ⟨fun h0 ad e => ?_, fun h0 ad e => ?_⟩
  · obtain ⟨a, e2, h2⟩ := Rd.at_ h.bs h0
    rw [e] at e2
    cases e2
    have := World.block_lt_of_cell? w _ h2
    rwa [block_add] at this
  · obtain ⟨a, e2, h2⟩ := Rd.at_ h.ks h0
    rw [e] at e2
    cases e2
    have := World.block_lt_of_cell? w _ h2
    rwa [block_add] at this
theorem runs_step {w wr : World} {B j : Nat} {b : Bk} {o : OpV} (h : RunsAt wr B b j) (hB : w.heap.size ≤ B) (hb : Below w.heap.size w wr) (ho : OpAt w o) (hj : j ≤ 1000) :
    Calls Try.prog 21 #[.pointer (some ⟨b.d, 0, none⟩), .pointer (some ⟨b.r, 0, none⟩), .agg #[.int .i64 o.kd, .int .i64 o.i, .int .i64 o.n, .slice o.BA o.bn o.bc, .slice o.KA o.kn o.kc, .int .i64 o.torn, .int .i64 o.cut]] wr fun e w' => e = .returned (.bool true) ∧ RunsAt w' B b (j + 1) ∧ Below w.heap.size w w' ∧ Touch b.S wr w' := by
  obtain ⟨k, c, hd, hc⟩ := h
  have hl := ho.lt
  refine (step_ok hd o (ho.below hb) (fun h0 ad e => Nat.lt_of_lt_of_le (hl.1 h0 ad e) hB) (fun h0 ad e => Nat.lt_of_lt_of_le (hl.2 h0 ad e) hB) (by omega)).mono ?_
  rintro e w' ⟨rfl, t, k', c', hd', hc'⟩
  exact ⟨rfl, ⟨k', c', hd', by omega⟩, Touch.below hb t (Nat.le_refl _) fun i hi => Nat.le_trans hB (hd.low i hi), t⟩
theorem runs_begin {w w1 w2 : World} {b : Bk} {k : Dsk} (h : Duo w2 w1.heap.size b 0 k) : RunsAt w2 w1.heap.size b 0 := ⟨k, 0, h, by omega⟩
theorem runs_same {w wr : World} {B j : Nat} {b : Bk} (h : RunsAt wr B b j) (hb : Below w.heap.size w wr) : Calls Try.prog 23 #[.pointer (some ⟨b.d, 0, none⟩), .pointer (some ⟨b.r, 0, none⟩)] wr fun e w' => e = .returned (.bool true) ∧ Below w.heap.size w w' := by
  obtain ⟨k, c, hd, _⟩ := h
  refine (same_ok hd).mono ?_
  rintro e w' ⟨rfl, hb'⟩
  exact ⟨rfl, below_trans2 hb hb'⟩
/-- The cells of a call. -/
def OpIn (w : World) (p q : Nat) (o : OpV) : Prop := w.cell? ⟨p, q, none⟩ = some (.int .i64 o.kd) ∧ w.cell? ⟨p, q + 1, none⟩ = some (.int .i64 o.i) ∧ w.cell? ⟨p, q + 2, none⟩ = some (.int .i64 o.n) ∧ w.cell? ⟨p, q + 3, none⟩ = some (.slice o.BA o.bn o.bc) ∧ w.cell? ⟨p, q + 4, none⟩ = some (.slice o.KA o.kn o.kc) ∧ w.cell? ⟨p, q + 5, none⟩ = some (.int .i64 o.torn) ∧ w.cell? ⟨p, q + 6, none⟩ = some (.int .i64 o.cut)
theorem spot_none {w : World} {a : Addr} {v : Value} (h : w.cell? a = some v) : a = ⟨a.block, a.off, none⟩ := by
  obtain ⟨b, o, s⟩ := a
  cases s with
  | none => rfl
  | some x =>
    unfold World.cell? at h
    split at h
    · simp at h
    · cases h
theorem OpsAt.op {w wr : World} {A : Option Addr} {n c j : Nat} (h : OpsAt w A n c) (hj : j < n) (hb : Below w.heap.size w wr) : ∃ ad, A = some ad ∧ ∃ p q o, ad.add (j * 7) = ⟨p, q, none⟩ ∧ OpIn wr p q o ∧ OpAt w o := by
  obtain ⟨ad, e, o, h1, h2⟩ := h.at_ j hj
  have g : ∀ i v, o.cells[i]? = some v → wr.cell? ((ad.add (j * 7)).add i) = some v := fun i v hv => cell_keep hb (h1 i v hv)
  have e0 := spot_none (g 0 _ rfl)
  rw [show (ad.add (j * 7)).add 0 = ad.add (j * 7) from rfl] at e0
  refine ⟨ad, e, _, _, o, e0, ?_, h2⟩
  rw [e0] at g
  exact ⟨g 0 _ rfl, g 1 _ rfl, g 2 _ rfl, g 3 _ rfl, g 4 _ rfl, g 5 _ rfl, g 6 _ rfl⟩
set_option maxHeartbeats 2000000 in
theorem SectorRuns_walk (w : World) (s : Int) (hs : I64 s) (z : Int) (hz : I64 z) (A : Option Addr) (n c : Nat) (ho : OpsAt w A n c) : Calls Try.prog 7 #[.int .i64 s, .int .i64 z, .slice A n c] w (RetTrue w) := by
  have HO := Lib.hid ho
  have hn : n ≤ 9223372036854775807 := by have h1 := ho.le; have h2 := ho.max; unfold maxLen at h2; omega
  clear ho
  by_cases hg : (1 ≤ s ∧ s ≤ 65536) ∧ 1 ≤ z ∧ z ≤ 8192
  · have HGS := Lib.hid hg.1
    have HGZ := Lib.hid hg.2
    clear hg hs hz
    go_enter Try.func7, Try.ntmps7
    go_wp2_with (first
      | (go_at_call 19; go_must (refine (awakeS_true _).mono ?_; rintro e w1 ⟨rfl, hb1⟩; have HB1 := Lib.hid hb1; have HS1 := Lib.hid hb1.size; clear hb1))
      | (go_at_call 20; go_must (refine (begin_good s z _ HGS.out HGZ.out).mono ?_; rintro e w2 ⟨b, k, rfl, hd, _, hb2⟩; have HR2 := Lib.hid (runs_begin (w := w) hd); have HB2 := Lib.hid (below_trans2 HB1.out hb2); clear hb2 hd)))
    go_loopw [10] (fun i' wr => ∃ j : Nat, j ≤ n ∧ j ≤ 150 ∧ i' = .int .i64 (j : Int) ∧ Hid (RunsAt wr w1.heap.size b j) ∧ Hid (Below w.heap.size w wr)) (fun i' _ => 150 - (intOf i').toNat)
    case atStart => exact ⟨0, Nat.zero_le _, by omega, rfl, HR2, HB2⟩
    case round =>
      obtain ⟨j, hj, h150, rfl, hr, hb⟩ := hrel
      by_cases hlt : j < n ∧ j < 150
      · obtain ⟨h1, h2⟩ := hlt
        obtain ⟨ad, rfl, p, q, o, hpq, hoi, hoa⟩ := HO.out.op h1 hb.out
        obtain ⟨o0, o1, o2, o3, o4, o5, o6⟩ := hoi
        have HST := Lib.hid (runs_step hr.out HS1.out hb.out hoa (by omega))
        clear hoa hr
        go_wp2_with (go_at_call 21; go_must (refine HST.out.mono ?_; rintro e w3 ⟨rfl, hr3, hb3, _⟩; have HR3 := Lib.hid hr3; have HB3 := Lib.hid hb3; clear hr3 hb3))
        go_roundw
        case rel => exact ⟨j + 1, by omega, by omega, by go_num, HR3, HB3⟩
        case measure => simp [intOf]; omega
      · have HSA := Lib.hid (runs_same hr.out hb.out)
        clear hr
        rcases (by omega : j = n ∨ (j < n ∧ j = 150)) with rfl | ⟨h1, rfl⟩
        · go_wp2_with (go_at_call 23; go_must (refine HSA.out.mono ?_; rintro e w3 ⟨rfl, hb3⟩; have HB3 := Lib.hid hb3; clear hb3))
          go_ret
          exact ⟨rfl, HB3.out⟩
        · go_wp2_with (go_at_call 23; go_must (refine HSA.out.mono ?_; rintro e w3 ⟨rfl, hb3⟩; have HB3 := Lib.hid hb3; clear hb3))
          go_ret
          exact ⟨rfl, HB3.out⟩
  · have HG := Lib.hid hg
    clear hg hs hz
    go_enter Try.func7, Try.ntmps7
    go_wp2_with (first
      | (go_at_call 19; go_must (refine (awakeS_true _).mono ?_; rintro e w1 ⟨rfl, hb1⟩; have HB1 := Lib.hid hb1; clear hb1))
      | (go_at_call 20; go_must (refine (begin_bad s z _ HG.out).mono ?_; rintro e w2 ⟨rfl, hw2⟩; obtain rfl := hw2.symm)))
    go_ret
    exact ⟨rfl, HB1.out⟩
end Go.Proofs.Ytaldjmhikebecaa
