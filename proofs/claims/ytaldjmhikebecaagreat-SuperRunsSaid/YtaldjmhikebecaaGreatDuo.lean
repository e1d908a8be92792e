/- Layer 8 (sector): the program's disk and the reference's, side by side; what one call makes of both. -/
import Derived.Test.YtaldjmhikebecaaGreatRefC
import Derived.Test.YtaldjmhikebecaaGreatRefE
import Derived.Test.YtaldjmhikebecaaGreatRefS
import Derived.Test.YtaldjmhikebecaaGreatRefW
import Derived.Test.YtaldjmhikebecaaGreatRefN
import Derived.Test.YtaldjmhikebecaaGreatErrB
import Derived.Test.YtaldjmhikebecaaGreatLib
namespace Go.Proofs.YtaldjmhikebecaaGreat
open Go Go.RowKit
set_option maxRecDepth 100000
set_option linter.unusedVariables false
structure Bk where
  d : Nat
  fb : Nat
  lb : Nat
  bb : Nat
  r : Nat
  L : Nat
  cap : Nat
def Bk.P (b : Bk) : Nat → Prop := fun i => i = b.d ∨ i = b.fb ∨ i = b.lb ∨ i = b.bb
def Bk.R (b : Bk) : Nat → Prop := fun i => i = b.r ∨ i = b.L
def Bk.S (b : Bk) : Nat → Prop := fun i => b.P i ∨ b.R i
def Bk.X (b : Bk) : Nat → Prop := fun i => (i = b.d ∨ i = b.fb) ∨ i = b.r ∨ i = b.L
structure Duo (w : World) (B : Nat) (b : Bk) (c : Nat) (k : Dsk) : Prop where
  dsk : OnDisk b.X w b.d b.fb b.lb b.bb c k
  ref : ∃ x, (k.set = true → x = k.left) ∧ OnRef b.X w b.r b.L b.cap { k with left := x }
  low : ∀ i, b.S i → B ≤ i
  far : ∀ i, b.P i → ¬ b.R i
section
variable {w w1 w2 w' : World} {B c c' : Nat} {b : Bk} {k k' : Dsk}
theorem Duo.pNo (h : OnDisk b.X w b.d b.fb b.lb b.bb c k) : ∀ i, b.P i → NoByte w i ∨ b.X i := by
  intro i hi
  rcases hi with rfl | rfl | rfl | rfl
  · exact .inr (.inl (.inl rfl))
  · exact .inr (.inl (.inr rfl))
  · obtain ⟨D, h1, _⟩ := h.loo
    exact .inl (map_nobyte h1)
  · obtain ⟨E, cb, h1, _⟩ := h.bd
    exact .inl (map_nobyte h1)
theorem Duo.rX : ∀ i, b.R i → NoByte w i ∨ b.X i := fun i hi => .inr (.inr hi)
theorem Duo.refP (h : Duo w B b c k) {kx : Dsk} (hr : OnRef b.X w b.r b.L b.cap kx) (t : Touch b.P w w') : OnRef b.X w' b.r b.L b.cap kx :=
  hr.kept t (fun hp => h.far _ hp (.inl rfl)) (fun hp => h.far _ hp (.inr rfl)) (Duo.pNo h.dsk)
theorem Bk.dskR (hf : ∀ i, b.P i → ¬ b.R i) (hd : OnDisk b.X w b.d b.fb b.lb b.bb c k) (t : Touch b.R w w') : OnDisk b.X w' b.d b.fb b.lb b.bb c k :=
  hd.kept t (hf _ (.inl rfl)) (hf _ (.inr (.inl rfl))) (hf _ (.inr (.inr (.inl rfl)))) (hf _ (.inr (.inr (.inr rfl)))) Duo.rX
theorem Duo.below (h : Duo w B b c k) (hb : Below w.heap.size w w') : Duo w' B b c k := by
  obtain ⟨x, hx, hr⟩ := h.ref
  exact ⟨h.dsk.below hb, ⟨x, hx, hr.below hb⟩, h.low, h.far⟩
theorem Duo.more (h : Duo w B b c k) (hc : c ≤ c') (hc' : c' < 1099511627776) : Duo w B b c' k := by
  obtain ⟨D, h1, h2⟩ := h.dsk.loo
  obtain ⟨E, cb, h3, h4⟩ := h.dsk.bd
  exact { h with dsk := { h.dsk with cnt := hc', loo := ⟨D, h1.mono hc, h2⟩, bd := ⟨E, cb, h3, Nat.le_trans h4.1 hc, h4.2⟩ } }
/-- The program first. -/
theorem Duo.fst (h : Duo w B b c k) (hd : OnDisk b.X w1 b.d b.fb b.lb b.bb c' k') (t : Touch b.P w w1) : ∃ x, (k.set = true → x = k.left) ∧ OnRef b.X w1 b.r b.L b.cap { k with left := x } ∧ Touch b.S w w1 ∧
    ∀ w2 x', (k'.set = true → x' = k'.left) → OnRef b.X w2 b.r b.L b.cap { k' with left := x' } → Touch b.R w1 w2 → Duo w2 B b c' k' ∧ Touch b.S w w2 := by
  obtain ⟨x, hx, hr⟩ := h.ref
  have ts : Touch b.S w w1 := t.mono fun _ _ h => .inl h
  exact ⟨x, hx, h.refP hr t, ts, fun w2 x' hx' hr' t2 => ⟨⟨Bk.dskR h.far hd t2, ⟨x', hx', hr'⟩, h.low, h.far⟩, ts.trans (t2.mono fun _ _ h => .inr h)⟩⟩
theorem on_left {x : Nat} (hx : k.set = true → x = k.left) : ({ k with left := x } : Dsk).on ↔ k.on := by
  unfold Dsk.on
  constructor
  · intro h h2
    exact h ⟨h2.1, (hx h2.1).trans h2.2⟩
  · intro h h2
    exact h ⟨h2.1, (hx h2.1).symm.trans h2.2⟩
theorem rless_left (k : Dsk) (x : Nat) : ({ k with left := x } : Dsk).rless = { k.less with left := if k.set then x - 1 else x } := by
  unfold Dsk.rless Dsk.less
  cases k.set <;> rfl
theorem left_less {x : Nat} (hx : k.set = true → x = k.left) : k.less.set = true → (if k.set then x - 1 else x) = k.less.left := by
  intro h
  have h : k.set = true := h
  rw [if_pos h, hx h]
  rfl
theorem puts_left (k : Dsk) (x i : Nat) (l : List UInt8) (m : Nat) : ({ k with left := x } : Dsk).puts i l m = { k.puts i l m with left := x } := by
  induction m with
  | zero => rfl
  | succ m ih => simp only [Dsk.puts, ih, Dsk.put]
theorem firmTo_left (k : Dsk) (x j : Nat) : ({ k with left := x } : Dsk).firmTo j = { k.firmTo j with left := x } := by
  induction j with
  | zero => rfl
  | succ j ih =>
    simp only [Dsk.firmTo, ih, Dsk.firm1]
    cases (k.firmTo j).loose j <;> rfl
theorem firmTo_set (k : Dsk) (j : Nat) : (k.firmTo j).set = k.set ∧ (k.firmTo j).left = k.left := by
  induction j with
  | zero => exact ⟨rfl, rfl⟩
  | succ j ih =>
    simp only [Dsk.firmTo, Dsk.firm1]
    cases (k.firmTo j).loose j <;> exact ih
theorem crashAt_left (k : Dsk) (x : Nat) (keep : List Bool) (torn cut : Int) (j : Nat) : ({ k with left := x } : Dsk).crashAt keep torn cut j = { k.crashAt keep torn cut j with left := x } := by
  induction j with
  | zero => rfl
  | succ j ih =>
    simp only [Dsk.crashAt, ih]
    have e : ({ k with left := x } : Dsk).looseL = k.looseL := rfl
    rw [e]
    split
    · split <;> rfl
    · split <;> rfl
theorem crash_left (k : Dsk) (x : Nat) (keep : List Bool) (torn cut : Int) : ({ ({ k with left := x } : Dsk).crash keep torn cut with left := 0 } : Dsk) = { k.crash keep torn cut with left := 0 } := by
  simp only [Dsk.crash, Dsk.calm]
  rw [show ({ k with left := x } : Dsk).looseL = k.looseL from rfl, crashAt_left]
theorem read_left (k : Dsk) (x i m : Nat) : ({ k with left := x } : Dsk).read i m = k.read i m := by
  induction m with
  | zero => rfl
  | succ m ih => simp only [Dsk.read, ih]; rfl
def Both (w : World) (B : Nat) (b : Bk) (c : Nat) (f g : Nat) (ps qs : Array Value) : Prop :=
  Calls Tryz.prog f ps w fun e w1 => ∃ z : Int, e = .returned (.int .i64 z) ∧ Touch b.S w w1 ∧ Calls Tryz.prog g qs w1 fun e w2 => e = .returned (.int .i64 z) ∧ Touch b.S w w2 ∧ ∃ k' c', Duo w2 B b c' k' ∧ c' ≤ c + 65537
theorem Duo.both (h : Duo w B b c k) {f g : Nat} {ps qs : Array Value} {z : Int} (k' : Dsk) (hc : c' ≤ c + 65537) (h1 : Calls Tryz.prog f ps w fun e w1 => e = .returned (.int .i64 z) ∧ OnDisk b.X w1 b.d b.fb b.lb b.bb c' k' ∧ Touch b.P w w1)
    (h2 : ∀ w1 x, (k.set = true → x = k.left) → Touch b.S w w1 → OnRef b.X w1 b.r b.L b.cap { k with left := x } → Calls Tryz.prog g qs w1 fun e w2 => e = .returned (.int .i64 z) ∧ ∃ x', (k'.set = true → x' = k'.left) ∧ OnRef b.X w2 b.r b.L b.cap { k' with left := x' } ∧ Touch b.R w1 w2) : Both w B b c f g ps qs := by
  refine h1.mono ?_
  rintro e w1 ⟨rfl, hd, t⟩
  obtain ⟨x, hx, hr, ts, fin⟩ := h.fst hd t
  refine ⟨z, rfl, ts, (h2 w1 x hx ts hr).mono ?_⟩
  rintro e w2 ⟨rfl, x', hx', hr', t2⟩
  obtain ⟨hduo, ts2⟩ := fin w2 x' hx' hr' t2
  exact ⟨rfl, ts2, k', c', hduo, hc⟩
theorem same_of (h : Duo w B b c k) {f : Nat} {ps : Array Value} {z : Int} (h1 : Calls Tryz.prog f ps w fun e w1 => e = .returned (.int .i64 z) ∧ Below w.heap.size w w1) : Calls Tryz.prog f ps w fun e w1 => e = .returned (.int .i64 z) ∧ OnDisk b.X w1 b.d b.fb b.lb b.bb c k ∧ Touch b.P w w1 :=
  h1.mono fun e w1 ⟨he, hb⟩ => ⟨he, h.dsk.below hb, Touch.of_below hb⟩
theorem same_r {kx : Dsk} (hr : OnRef b.X w b.r b.L b.cap kx) {f : Nat} {ps : Array Value} {z : Int} (h1 : Calls Tryz.prog f ps w fun e w1 => e = .returned (.int .i64 z) ∧ Below w.heap.size w w1) : Calls Tryz.prog f ps w fun e w1 => e = .returned (.int .i64 z) ∧ OnRef b.X w1 b.r b.L b.cap kx ∧ Touch b.R w w1 :=
  h1.mono fun e w1 ⟨he, hb⟩ => ⟨he, hr.below hb, Touch.of_below hb⟩
theorem below_eq {f : Nat} {ps : Array Value} {z : Int} (h1 : Calls Tryz.prog f ps w fun e w1 => e = .returned (.int .i64 z) ∧ w1 = w) : Calls Tryz.prog f ps w fun e w1 => e = .returned (.int .i64 z) ∧ Below w.heap.size w w1 :=
  h1.mono fun e w1 ⟨he, hb⟩ => ⟨he, hb ▸ Below.refl _ _⟩
theorem both_barrier (h : Duo w B b c k) : Both w B b c 13 20 #[.pointer (some ⟨b.d, 0, none⟩)] #[.pointer (some ⟨b.r, 0, none⟩)] := by
  by_cases hon : k.on
  · refine h.both k.less.firm (c' := c) (by omega) (Barrier_ok h.dsk hon) fun w1 x hx ts hr => (RBarrier_ok hr ((on_left hx).2 hon)).mono ?_
    rintro e w2 ⟨rfl, hr2, t2⟩
    rw [rless_left, Dsk.firm, firmTo_left] at hr2
    have hs := firmTo_set k.less k.less.n
    exact ⟨rfl, _, fun h => by rw [Dsk.firm, hs.1] at h; rw [Dsk.firm, hs.2]; exact left_less hx h, hr2, t2⟩
  · refine h.both k (c' := c) (by omega) (same_of h (below_eq (Barrier_power h.dsk hon))) fun w1 x hx ts hr => (RBarrier_power hr (fun h => hon ((on_left hx).1 h))).mono ?_
    rintro e w2 ⟨rfl, hr2, t2⟩
    exact ⟨rfl, x, hx, hr2, t2⟩
theorem both_bad (h : Duo w B b c k) (i : Int) (hc : c + 65537 < 1099511627776) : Both w B b c 24 25 #[.pointer (some ⟨b.d, 0, none⟩), .int .i64 i] #[.pointer (some ⟨b.r, 0, none⟩), .int .i64 i] := by
  by_cases hi : 0 ≤ i ∧ i < k.n
  · obtain ⟨i, rfl⟩ := Int.eq_ofNat_of_zero_le hi.1
    have hi' : i < k.n := by omega
    refine h.both (z := 0) ((k.spoilt i).drop i) (c' := c + 1) (by omega) ((Bad_ok h.dsk i hi' (by omega)).mono fun e w1 h => ?_) fun w1 x hx ts hr => (RBad_ok hr i hi').mono ?_
    · exact ⟨h.1, h.2.1, h.2.2.mono fun j _ hj => by rcases hj with rfl | rfl <;> simp [Bk.P]⟩
    · rintro e w2 ⟨rfl, hr2, t2⟩
      exact ⟨rfl, x, hx, hr2, t2.mono fun j _ hj => .inr hj⟩
  · refine h.both k (c' := c) (by omega) (same_of h (below_eq (Bad_range h.dsk i hi))) fun w1 x hx ts hr => (same_r hr (below_eq (RBad_range hr i hi))).mono ?_
    rintro e w2 ⟨rfl, hr2, t2⟩
    exact ⟨rfl, x, hx, hr2, t2⟩
theorem spoil_alike (hlen : k.fast.length = k.n * k.size) {i : Nat} (hi : i < k.n) {l : List UInt8} (hl : l.length ≤ k.size) (x : Nat) : Alike (({ k with left := x } : Dsk).sec4 i (l ++ (({ k with left := x } : Dsk).at_ i).drop l.length) false) { ((k.lay i l).good i).drop i with left := x } := by
  have ha := at_len hlen hi
  have hll : (l ++ (k.at_ i).drop l.length).length = k.size := by rw [List.length_append, List.length_drop, ha]; omega
  refine ⟨rfl, rfl, rfl, rfl, rfl, ?_, fun j hj => ?_, fun j hj => ?_, fun j hj => rfl⟩
  · exact lay_len hlen hi hl
  · have hj : j < k.n := hj
    have e1 := at_lay hlen hi hj hl
    have e2 := sec4_at hlen hi hj hll false
    show (k.lay i l).at_ j = (k.sec4 i (l ++ (k.at_ i).drop l.length) false).at_ j
    rw [e1, e2]
  · rfl
theorem both_spoil (h : Duo w B b c k) (A : Option Addr) (n c0 : Nat) (l : List UInt8) (hB : Bs w A n c0 l) (hA : 0 < n → ∀ ad, A = some ad → ad.block < B) (i : Int) : Both w B b c 22 23 #[.pointer (some ⟨b.d, 0, none⟩), .int .i64 i, .slice A n c0] #[.pointer (some ⟨b.r, 0, none⟩), .int .i64 i, .slice A n c0] := by
  by_cases hi : 0 ≤ i ∧ i < k.n
  · obtain ⟨i, rfl⟩ := Int.eq_ofNat_of_zero_le hi.1
    have hi' : i < k.n := by omega
    by_cases hn : n ≤ k.size
    · have hll := hB.len
      refine h.both (z := 0) (((k.lay i l).good i).drop i) (c' := c) (by omega) ((Spoil_ok h.dsk i hi' A n c0 l hB hn).mono fun e w1 h => ?_) fun w1 x hx ts hr => (RSpoil_ok hr i hi' A n c0 l (ts.bsp hB fun h0 ad e hs => by have := hA h0 ad e; have := h.low _ hs; omega) hn).mono ?_
      · exact ⟨h.1, h.2.1, h.2.2.mono fun j _ hj => by rcases hj with rfl | rfl | rfl <;> simp [Bk.P]⟩
      · rintro e w2 ⟨rfl, hr2, t2⟩
        rw [← hll] at hr2
        exact ⟨rfl, x, hx, hr2.alike (spoil_alike h.dsk.len hi' (by omega) x), t2.mono fun j _ hj => .inr hj⟩
    · refine h.both k (c' := c) (by omega) (same_of h (below_eq (Spoil_arg h.dsk A n c0 i hi' (by omega)))) fun w1 x hx ts hr => (same_r hr (below_eq (RSpoil_arg hr A n c0 i hi' (by show k.size < n; omega)))).mono ?_
      rintro e w2 ⟨rfl, hr2, t2⟩
      exact ⟨rfl, x, hx, hr2, t2⟩
  · refine h.both k (c' := c) (by omega) (same_of h (below_eq (Spoil_range h.dsk A n c0 i hi))) fun w1 x hx ts hr => (same_r hr (below_eq (RSpoil_range hr A n c0 i hi))).mono ?_
    rintro e w2 ⟨rfl, hr2, t2⟩
    exact ⟨rfl, x, hx, hr2, t2⟩
theorem both_write (h : Duo w B b c k) (A : Option Addr) (n c0 : Nat) (l : List UInt8) (hB : Bs w A n c0 l) (hA : 0 < n → ∀ ad, A = some ad → ad.block < B) (i : Int) (hi2 : I64 i) (hc : c + 65537 < 1099511627776) : Both w B b c 39 52 #[.pointer (some ⟨b.d, 0, none⟩), .int .i64 i, .slice A n c0] #[.pointer (some ⟨b.r, 0, none⟩), .int .i64 i, .slice A n c0] := by
  have hnn : n ≤ 9223372036854775807 := hB.i64
  have hn2 := h.dsk.n2
  by_cases hm : n % k.size = 0
  · obtain ⟨m, hm⟩ : ∃ m, n = m * k.size := ⟨n / k.size, by have := Nat.div_add_mod n k.size; rw [hm, Nat.add_zero, Nat.mul_comm] at this; exact this.symm⟩
    by_cases hr : 0 ≤ i ∧ i ≤ k.n ∧ (m : Int) ≤ k.n - i
    · obtain ⟨i, rfl⟩ := Int.eq_ofNat_of_zero_le hr.1
      have him : i + m ≤ k.n := by omega
      by_cases hon : k.on
      · have hlow : ∀ ad, A = some ad → 0 < n → ¬ b.S ad.block := fun ad e h0 hs => by have := hA h0 ad e; have := h.low _ hs; omega
        have hdl := h.dsk.lts.1
        refine h.both (z := 0) (k.less.puts i l m) (c' := c + m) (by omega) ((DWrite_ok h.dsk A n c0 l hB (fun h0 ad e => ⟨fun e2 => hlow ad e h0 (.inl (.inl e2)), by have := hA h0 ad e; have := h.low b.d (.inl (.inl rfl)); omega⟩) i m hm him hon (by omega)).mono fun e w1 h => ?_) fun w1 x hx ts hr => (RefWrite_ok hr A n c0 l (ts.bsp hB fun h0 ad e => hlow ad e h0) (fun h0 ad e => ⟨fun e2 => hlow ad e h0 (.inr (.inl e2)), fun e2 => hlow ad e h0 (.inr (.inr e2))⟩) i m hm him ((on_left hx).2 hon)).mono ?_
        · exact ⟨h.1, h.2.1, h.2.2.mono fun j _ hj => by rcases hj with rfl | rfl <;> simp [Bk.P]⟩
        · rintro e w2 ⟨rfl, hr2, t2⟩
          rw [rless_left, puts_left] at hr2
          have hd := k.less.puts_dims i l m
          exact ⟨rfl, _, fun h => by rw [hd.2.2.2.2.1] at h; rw [hd.2.2.2.2.2]; exact left_less hx h, hr2, t2⟩
      · refine h.both k (c' := c) (by omega) (same_of h (Write_power h.dsk A n c0 m i hnn hm him hon)) fun w1 x hx ts hr => (RefWrite_power hr A n c0 m i hnn hm him (fun h => hon ((on_left hx).1 h))).mono ?_
        rintro e w2 ⟨rfl, hr2, t2⟩
        exact ⟨rfl, x, hx, hr2, t2⟩
    · refine h.both k (c' := c) (by omega) (same_of h (Write_range h.dsk A n c0 m i hnn hm hi2 hr)) fun w1 x hx ts hr' => (same_r hr' (RefWrite_range hr' A n c0 m i hnn hm hi2 hr)).mono ?_
      rintro e w2 ⟨rfl, hr2, t2⟩
      exact ⟨rfl, x, hx, hr2, t2⟩
  · refine h.both k (c' := c) (by omega) (same_of h (Write_arg h.dsk A n c0 i hnn hm)) fun w1 x hx ts hr => (same_r hr (below_eq (RefWrite_arg hr A n c0 i hnn hm))).mono ?_
    rintro e w2 ⟨rfl, hr2, t2⟩
    exact ⟨rfl, x, hx, hr2, t2⟩
/-- The reference first: Crash, Fuse. -/
theorem both_crash (h : Duo w B b c k) (KA : Option Addr) (m kc : Nat) (keep : List Bool) (torn cut : Int) (hK : Rd w 1 KA m kc (keep.map Value.bool)) (hKA : 0 < m → ∀ ad, KA = some ad → ad.block < B) :
    Calls Tryz.prog 21 #[.pointer (some ⟨b.r, 0, none⟩), .agg #[.slice KA m kc, .int .i64 torn, .int .i64 cut]] w fun e w1 => (∃ v, e = .returned v) ∧ Touch b.S w w1 ∧
      Calls Tryz.prog 16 #[.pointer (some ⟨b.d, 0, none⟩), .agg #[.slice KA m kc, .int .i64 torn, .int .i64 cut]] w1 fun e w2 => e = .returned (.int .i64 0) ∧ Touch b.S w w2 ∧ ∃ k' c', Duo w2 B b c' k' ∧ c' ≤ c + 65537 := by
  obtain ⟨x, hx, hr⟩ := h.ref
  have hlow : ∀ ad, KA = some ad → 0 < m → ¬ b.S ad.block := fun ad e h0 hs => by have := hKA h0 ad e; have := h.low _ hs; omega
  refine (RCrash_ok hr KA m kc keep torn cut hK fun h0 ad e => ⟨fun e2 => hlow ad e h0 (.inr (.inl e2)), fun e2 => hlow ad e h0 (.inr (.inr e2))⟩).mono ?_
  rintro e w1 ⟨hv, hr1, t1⟩
  have t1 : Touch b.R w w1 := t1
  have ts : Touch b.S w w1 := t1.mono fun _ _ h => .inr h
  refine ⟨hv, ts, (Crash_ok (Bk.dskR h.far h.dsk t1) KA m kc keep torn cut (hK.touch ts fun h0 ad e => hlow ad e h0)).mono ?_⟩
  rintro e w2 ⟨rfl, hd2, t2⟩
  have t2 : Touch b.P w1 w2 := t2
  rw [crash_left] at hr1
  refine ⟨rfl, ts.trans (t2.mono fun _ _ h => .inl h), k.crash keep torn cut, c, ⟨hd2, ⟨0, fun h => by simp [Dsk.crash, Dsk.calm] at h, ?_⟩, h.low, h.far⟩, by omega⟩
  exact hr1.kept t2 (fun hp => h.far _ hp (.inl rfl)) (fun hp => h.far _ hp (.inr rfl)) (Duo.pNo (Bk.dskR h.far h.dsk t1))
end
end Go.Proofs.YtaldjmhikebecaaGreat
