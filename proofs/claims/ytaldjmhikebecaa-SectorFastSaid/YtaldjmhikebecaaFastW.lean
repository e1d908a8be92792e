/- SectorFast: the disk, its copies, a crash: what the walk leans on. -/
import Derived.Test.YtaldjmhikebecaaRuns
import Derived.Test.YtaldjmhikebecaaCopy
import Derived.Test.YtaldjmhikebecaaFastL
namespace Go.Proofs.Ytaldjmhikebecaa
open Go Go.RowKit
set_option maxRecDepth 100000
set_option linter.unusedVariables false
section
variable {w w' w0 : World} {d fb lb bb c B : Nat} {k : Dsk} {X : Nat → Prop} {b : Bk}
/-- A write, whatever comes of it, leaves what is fast. -/
theorem prog_write (h : OnDisk X w d fb lb bb c k) (A : Option Addr) (n c0 : Nat) (l : List UInt8) (hB : Bs w A n c0 l) (hA : 0 < n → ∀ ad, A = some ad → ad.block ≠ d) (i : Int) (hi2 : I64 i) (hc : c + 65537 < 1099511627776) :
    Calls Try.prog 27 #[.pointer (some ⟨d, 0, none⟩), .int .i64 i, .slice A n c0] w fun e w1 => ∃ z k' c', e = .returned (.int .i64 z) ∧ OnDisk X w1 d fb lb bb c' k' ∧ c' ≤ c + 65537 ∧ SameFast k k' ∧ Touch (fun b => b = d ∨ b = lb) w w1 := by
  have hnn : n ≤ 9223372036854775807 := hB.i64
  have hn2 := h.n2
  have still : ∀ {f : Nat} {ps : Array Value} {z : Int}, (Calls Try.prog f ps w fun e w1 => e = .returned (.int .i64 z) ∧ Below w.heap.size w w1) → Calls Try.prog f ps w fun e w1 => ∃ z k' c', e = .returned (.int .i64 z) ∧ OnDisk X w1 d fb lb bb c' k' ∧ c' ≤ c + 65537 ∧ SameFast k k' ∧ Touch (fun b => b = d ∨ b = lb) w w1 := fun {f ps z} hh => hh.mono fun e w1 ⟨h1, h2⟩ => ⟨z, k, c, h1, h.below h2, by omega, SameFast.refl k, Touch.of_below h2⟩
  by_cases hm : n % k.size = 0
  · obtain ⟨m, hm⟩ : ∃ m, n = m * k.size := ⟨n / k.size, by have := Nat.div_add_mod n k.size; rw [hm, Nat.add_zero, Nat.mul_comm] at this; exact this.symm⟩
    by_cases hr : 0 ≤ i ∧ i ≤ k.n ∧ (m : Int) ≤ k.n - i
    · obtain ⟨i, rfl⟩ := Int.eq_ofNat_of_zero_le hr.1
      have him : i + m ≤ k.n := by omega
      by_cases hon : k.on
      · refine (DWrite_ok h A n c0 l hB (fun h0 ad e => ⟨hA h0 ad e, bs_lt hB h0 ad e⟩) i m hm him hon (by omega)).mono ?_
        rintro e w1 ⟨rfl, h1, t⟩
        have hd := k.less.puts_dims i l m
        exact ⟨0, _, c + m, rfl, h1, by omega, ⟨hd.1, hd.2.1, hd.2.2.1, hd.2.2.2.1⟩, t⟩
      · exact still (Write_power h A n c0 m i hnn hm him hon)
    · exact still (Write_range h A n c0 m i hnn hm hi2 hr)
  · exact still (Write_arg h A n c0 i hnn hm)
def Dsk.rdL (k : Dsk) (i : Nat) : List UInt8 := (k.sec i).getD []
def Dsk.rdE (k : Dsk) (i : Nat) : Int := if (k.sec i).isSome then 0 else 81
/-- One sector's reading. -/
def Reads (w : World) (d : Nat) (k : Dsk) (i : Nat) : Prop := ∀ w1, Below w.heap.size w w1 → Calls Try.prog 22 #[.pointer (some ⟨d, 0, none⟩), .int .i64 (i : Int), .int .i64 1] w1 fun e w2 => ∃ A c, e = .returned (.tuple #[.slice A (k.rdL i).length c, .int .i64 (k.rdE i)]) ∧ Bs w2 A (k.rdL i).length c (k.rdL i) ∧ Below w1.heap.size w1 w2
theorem OnDisk.reads (h : OnDisk X w d fb lb bb c k) (i : Nat) (hi : i < k.n) : Reads w d k i := by
  intro w1 hb
  have hrd := Read_ok (h.below hb) i 1 (by omega)
  have hs := read_sec k i
  cases hsec : k.sec i with
  | none =>
    rw [hsec] at hs
    refine (retRead_none hrd hs).mono ?_
    rintro e w2 ⟨rfl, hb2⟩
    unfold Dsk.rdL Dsk.rdE
    rw [hsec]
    exact ⟨none, 0, rfl, Bs.none _, hb2⟩
  | some l =>
    rw [hsec] at hs
    refine (retRead_some hrd hs).mono ?_
    rintro e w2 ⟨A, n, c, rfl, hB, hb2⟩
    unfold Dsk.rdL Dsk.rdE
    rw [hsec]
    obtain rfl : l.length = n := hB.len
    exact ⟨A, c, rfl, hB, hb2⟩
theorem Reads.below {i : Nat} (h : Reads w d k i) (hb : Below w.heap.size w w') : Reads w' d k i := fun w1 hb1 => h w1 (bthen hb hb1)
/-- Behind the barrier: the disk, and its copy. -/
structure FastS (w : World) (B : Nat) (b : Bk) (dO : Nat) (k1 k2 : Dsk) (c : Nat) : Prop where
  dsk : OnDisk b.X w b.d b.fb b.lb b.bb c k2
  same : SameFast k1 k2
  old : ∃ (X : Nat → Prop) (fb lb bb c : Nat), OnDisk X w dO fb lb bb c k1 ∧ (∀ i, b.P i → X i) ∧ ¬ b.P dO ∧ ¬ b.P fb ∧ ¬ b.P lb ∧ ¬ b.P bb
  nolo : ∀ i, i < k1.n → k1.loose i = none
  ref : w.cell? ⟨b.r, 1, none⟩ = some (.slice (some ⟨b.L, 0, none⟩) k1.n b.cap)
  low : ∀ i, b.P i → B ≤ i
  far : ¬ b.P b.r
theorem FastS.touch {dO c c' : Nat} {k1 k2 k3 : Dsk} (h : FastS w B b dO k1 k2 c) (t : Touch b.P w w') (hd : OnDisk b.X w' b.d b.fb b.lb b.bb c' k3) (hs : SameFast k1 k3) : FastS w' B b dO k1 k3 c' := by
  obtain ⟨X, fb, lb, bb, co, h1, h2, h3, h4, h5, h6⟩ := h.old
  exact ⟨hd, hs, ⟨X, fb, lb, bb, co, h1.kept t h3 h4 h5 h6 (fun i hi => .inr (h2 i hi)), h2, h3, h4, h5, h6⟩, h.nolo, t.cell h.ref h.far, h.low, h.far⟩
theorem FastS.below {dO c : Nat} {k1 k2 : Dsk} (h : FastS w B b dO k1 k2 c) (hb : Below w.heap.size w w') : FastS w' B b dO k1 k2 c := h.touch (Touch.of_below hb) (h.dsk.below hb) h.same
theorem firm_loose {k : Dsk} (hlen : k.fast.length = k.n * k.size) (hl : ∀ i, i < k.n → ∀ l, k.loose i = some l → l.length = k.size) : ∀ i, i < k.n → k.firm.loose i = none := fun i hi =>
  ((firmTo_is k hlen hl k.n (Nat.le_refl _)).on i hi hi).1
theorem fast_start (h : Duo w B b c k) : Calls Try.prog 24 #[.pointer (some ⟨b.d, 0, none⟩), .int .i64 (-1)] w fun e wf => e = .returned (.int .i64 0) ∧
    Calls Try.prog 25 #[.pointer (some ⟨b.d, 0, none⟩)] wf fun e wb => e = .returned (.int .i64 0) ∧
    Calls Try.prog 26 #[.pointer (some ⟨b.d, 0, none⟩)] wb fun e wo => ∃ dO k1 k2, e = .returned (.pointer (some ⟨dO, 0, none⟩)) ∧ FastS wo B b dO k1 k2 c ∧ Touch b.P w wo := by
  obtain ⟨x, hx, hr⟩ := h.ref
  refine (Fuse_ok h.dsk (-1) (by omega)).mono ?_
  rintro e wf ⟨rfl, hf, tf⟩
  refine ⟨rfl, (Barrier_ok hf (fun hh => by have := hh.1; simp at this)).mono ?_⟩
  rintro e wb ⟨rfl, hb, tb⟩
  have hfn := (firmTo_is _ hf.less.len hf.less.loose_len _ (Nat.le_refl _)).n
  have hfl := firm_loose hf.less.len hf.less.loose_len
  change (Dsk.firm (Dsk.less { k with set := decide ((0 : Int) ≤ -1), left := (-1 : Int).toNat })).n = k.n at hfn
  generalize Dsk.firm (Dsk.less { k with set := decide ((0 : Int) ≤ -1), left := (-1 : Int).toNat }) = kf at hb hfn hfl
  refine ⟨rfl, (Copy_ok hb).mono ?_⟩
  rintro e wo ⟨dO, fb2, lb2, bb2, sp, rfl, hO, ⟨g1, g2, g3, g4⟩, hbo⟩
  have t1 : Touch b.P w wf := tf.mono fun i _ hi => .inl hi
  have t2 : Touch b.P w wb := t1.trans tb
  have t3 : Touch b.P w wo := t2.trans (Touch.of_below hbo)
  have hl := hb.lts
  have far : ∀ i, b.P i → i < wb.heap.size := by
    rintro i (rfl | rfl | rfl | rfl)
    · exact hl.1
    · exact hl.2.1
    · exact hl.2.2.1
    · exact hl.2.2.2
  have nP : ∀ i, wb.heap.size ≤ i → ¬ b.P i := fun i hi hp => by have := far i hp; omega
  have hfarR : ¬ b.P b.r := fun hp => h.far _ hp (.inl rfl)
  refine ⟨dO, { kf with sp := sp }, kf, rfl, ⟨hb.below hbo, ⟨rfl, rfl, rfl, rfl⟩, ⟨_, fb2, lb2, bb2, c, hO, fun i hi => Or.inr (Or.inr (far i hi)), nP _ g1, nP _ g2, nP _ g3, nP _ g4⟩, fun i hi => hfl i (by show i < k.n; rw [← hfn]; exact hi), ?_, fun i hi => h.low i (.inl hi), hfarR⟩, t3⟩
  have := t3.cell (blk_cell hr.blk 1) hfarR
  rw [this]
  show some (Value.slice (some ⟨b.L, 0, none⟩) k.n b.cap) = some (Value.slice (some ⟨b.L, 0, none⟩) kf.n b.cap)
  rw [hfn]
theorem fast_write {dO c : Nat} {k1 k2 : Dsk} (h : FastS w B b dO k1 k2 c) (A : Option Addr) (n c0 : Nat) (l : List UInt8) (hB : Bs w A n c0 l) (hA : 0 < n → ∀ ad, A = some ad → ad.block < B) (i : Int) (hi2 : I64 i) (hc : c + 65537 < 1099511627776) :
    Calls Try.prog 27 #[.pointer (some ⟨b.d, 0, none⟩), .int .i64 i, .slice A n c0] w fun e w1 => ∃ z, e = .returned (.int .i64 z) ∧ (∃ k2 c', FastS w1 B b dO k1 k2 c' ∧ c' ≤ c + 65537) ∧ Touch b.P w w1 := by
  refine (prog_write h.dsk A n c0 l hB (fun h0 ad e e2 => by have h1 := hA h0 ad e; have h2 := h.low b.d (.inl rfl); omega) i hi2 hc).mono ?_
  rintro e w1 ⟨z, k', c', rfl, h1, h2, h3, t⟩
  have t' : Touch b.P w w1 := t.mono fun i _ hi => by rcases hi with rfl | rfl <;> simp [Bk.P]
  exact ⟨z, rfl, ⟨k', c', h.touch t' h1 (h.same.trans h3), h2⟩, t'⟩
/-- What the law compares. -/
structure FastX (w : World) (b : Bk) (dO dM : Nat) (k1 k2 k3 : Dsk) : Prop where
  ro : ∀ i, i < k1.n → Reads w dO k1 i
  rm : ∀ i, i < k1.n → Reads w dM k2 i
  rx : ∀ i, i < k1.n → Reads w b.d k3 i
  ref : w.cell? ⟨b.r, 1, none⟩ = some (.slice (some ⟨b.L, 0, none⟩) k1.n b.cap)
theorem fast_end {dO c : Nat} {k1 k2 : Dsk} (h : FastS w B b dO k1 k2 c) (KA : Option Addr) (m kc : Nat) (keep : List Bool) (torn cut : Int) (hK : Rd w 1 KA m kc (keep.map Value.bool)) :
    Calls Try.prog 26 #[.pointer (some ⟨b.d, 0, none⟩)] w fun e wm => ∃ dM, e = .returned (.pointer (some ⟨dM, 0, none⟩)) ∧ Below w.heap.size w wm ∧
    Calls Try.prog 29 #[.pointer (some ⟨b.d, 0, none⟩), .agg #[.slice KA m kc, .int .i64 torn, .int .i64 cut]] wm fun e wc => e = .returned (.int .i64 0) ∧ Touch b.P w wc ∧
    Calls Try.prog 28 #[.pointer (some ⟨b.d, 0, none⟩)] wc fun e wX => ∃ A c, e = .returned (.slice A 0 c) ∧ Touch b.P w wX ∧ FastX wX b dO dM k1 k2 (k2.crash keep torn cut) := by
  refine (Copy_ok h.dsk).mono ?_
  rintro e wm ⟨dM, fbm, lbm, bbm, sp, rfl, hM, ⟨g1, g2, g3, g4⟩, hbm⟩
  have h' := h.below hbm
  refine ⟨dM, rfl, hbm, (Crash_ok h'.dsk KA m kc keep torn cut (hK.below hbm)).mono ?_⟩
  rintro e wc ⟨rfl, hc, tc⟩
  have tc' : Touch b.P wm wc := tc
  have twc : Touch b.P w wc := (Touch.of_below hbm).trans tc'
  refine ⟨rfl, twc, (Loose_ok hc).mono ?_⟩
  rintro e wX ⟨A, c', rfl, _, hbX⟩
  have hl := h.dsk.lts
  have far : ∀ i, b.P i → i < w.heap.size := by
    rintro i (rfl | rfl | rfl | rfl)
    · exact hl.1
    · exact hl.2.1
    · exact hl.2.2.1
    · exact hl.2.2.2
  have nP : ∀ i, w.heap.size ≤ i → ¬ b.P i := fun i hi hp => by have := far i hp; omega
  have hMc := (hM.kept tc' (nP _ g1) (nP _ g2) (nP _ g3) (nP _ g4) (fun i hi => .inr (.inr (.inr (far i hi))))).below hbX
  obtain ⟨Xo, fbo, lbo, bbo, co, ho, hoX, o1, o2, o3, o4⟩ := h'.old
  have hOc := (ho.kept tc' o1 o2 o3 o4 (fun i hi => .inr (hoX i hi))).below hbX
  have hz : (k2.crash keep torn cut).looseL = [] := by simp [Dsk.looseL, Dsk.crash, Dsk.calm]
  have hn2 := h.same.n
  have hdim : (k2.crash keep torn cut).n = k2.n := (crashAt_dims k2 keep torn cut k2.looseL.length).1
  refine ⟨A, c', by rw [hz]; rfl, twc.trans (Touch.of_below hbX), ⟨fun i hi => hOc.reads i hi, fun i hi => hMc.reads i (by show i < k2.n; omega), fun i hi => (hc.below hbX).reads i (by omega), (twc.trans (Touch.of_below hbX)).cell h.ref h.far⟩⟩
end
end Go.Proofs.Ytaldjmhikebecaa
