/- Layer 8 (sector): two disks that are alike at each sector; a sector of the reference, written whole; what a barrier leaves. -/
import Derived.Test.YtaldjmhikebecaaGreatRefB
import Derived.Test.YtaldjmhikebecaaGreatErr
namespace Go.Proofs.YtaldjmhikebecaaGreat
open Go Go.RowKit
set_option maxRecDepth 100000
set_option linter.unusedVariables false
structure Alike (k k' : Dsk) : Prop where
  n : k'.n = k.n
  size : k'.size = k.size
  set : k'.set = k.set
  left : k'.left = k.left
  sp : k'.sp = k.sp
  len : k'.fast.length = k.n * k.size
  at_ : ∀ i, i < k.n → k'.at_ i = k.at_ i
  loose : ∀ i, i < k.n → k'.loose i = k.loose i
  bad : ∀ i, i < k.n → k'.bad i = k.bad i
theorem fast_ext {k k' : Dsk} (hs : k'.size = k.size) (h1 : k.fast.length = k.n * k.size) (h2 : k'.fast.length = k.n * k.size) (hs1 : 1 ≤ k.size) (h : ∀ i, i < k.n → k'.at_ i = k.at_ i) : k'.fast = k.fast := by
  apply List.ext_getElem?
  intro x
  by_cases hx : x < k.n * k.size
  · have hi : x / k.size < k.n := Nat.div_lt_of_lt_mul (by rwa [Nat.mul_comm])
    have := congrArg (fun l : List UInt8 => l[x % k.size]?) (h (x / k.size) hi)
    simp only [Dsk.at_, hs, List.getElem?_take, if_pos (Nat.mod_lt x hs1), List.getElem?_drop] at this
    rw [Nat.div_add_mod'] at this
    exact this
  · rw [List.getElem?_eq_none (by omega), List.getElem?_eq_none (by omega)]
section
variable {w w' : World} {d fb lb bb c r L cap : Nat} {k : Dsk} {X : Nat → Prop}
theorem OnRef.alike (h : OnRef X w r L cap k) {k' : Dsk} (a : Alike k k') : OnRef X w r L cap k' :=
  h.upd (Touch.refl _ _) h.row k.n (fun _ _ => rfl) k' ⟨a.n, a.size, a.set, a.left⟩ a.len (fun j hj _ => ⟨a.at_ j hj, a.loose j hj, a.bad j hj⟩) (fun h => absurd h (Nat.lt_irrefl _))
theorem OnDisk.alike (h : OnDisk X w d fb lb bb c k) {k' : Dsk} (a : Alike k k') : OnDisk X w d fb lb bb c k' := by
  have e := fast_ext a.size h.len a.len h.s1 a.at_
  have ec : k'.cells fb lb bb = k.cells fb lb bb := by unfold Dsk.cells; rw [a.n, a.size, a.set, a.left, a.sp]
  obtain ⟨D, h1, h2⟩ := h.loo
  obtain ⟨E, cb, h3, h4, h5⟩ := h.bd
  refine { h with blk := by rw [ec]; exact h.blk, fst := by rw [e, a.sp]; exact h.fst, spm := by rw [a.n, a.size, a.sp]; exact h.spm, len := by rw [a.len, a.n, a.size], n1 := by rw [a.n]; exact h.n1, n2 := by rw [a.n]; exact h.n2, s1 := by rw [a.size]; exact h.s1, s2 := by rw [a.size]; exact h.s2, lf := by rw [a.left]; exact h.lf, loo := ⟨D, h1, ⟨fun i hi => ?_, fun kl hk => ?_⟩⟩, bd := ⟨E, cb, h3, h4, fun i hi => ?_⟩ }
  · rw [a.n] at hi
    rw [a.loose i hi, a.size]
    exact h2.at_ i hi
  · rw [a.n]
    exact h2.keys kl hk
  · rw [a.n] at hi
    rw [a.bad i hi]
    exact h5 i hi
/-! ### a sector, written whole -/
def Dsk.sec4 (k : Dsk) (i : Nat) (l : List UInt8) (b : Bool) : Dsk := { ((k.lay i l).drop i) with bad := fun j => if j = i then b else k.bad j }
def set4 (w : World) (L i : Nat) (v0 v1 v2 v3 : Value) : World := (((w.setCell ⟨L, i * 4, none⟩ v0).setCell ⟨L, i * 4 + 1, none⟩ v1).setCell ⟨L, i * 4 + 2, none⟩ v2).setCell ⟨L, i * 4 + 3, none⟩ v3
theorem lay_len {k : Dsk} (hlen : k.fast.length = k.n * k.size) {i : Nat} (hi : i < k.n) {l : List UInt8} (hl : l.length ≤ k.size) : (k.lay i l).fast.length = k.n * k.size := by
  have h1 : (i + 1) * k.size ≤ k.n * k.size := Nat.mul_le_mul_right _ hi
  rw [Nat.add_mul, Nat.one_mul] at h1
  simp only [Dsk.lay, List.length_append, List.length_take, List.length_drop]
  omega
theorem at_len {k : Dsk} (hlen : k.fast.length = k.n * k.size) {i : Nat} (hi : i < k.n) : (k.at_ i).length = k.size := by
  have h1 : (i + 1) * k.size ≤ k.n * k.size := Nat.mul_le_mul_right _ hi
  rw [Nat.add_mul, Nat.one_mul] at h1
  simp only [Dsk.at_, List.length_take, List.length_drop]
  omega
theorem sec4_at {k : Dsk} (hlen : k.fast.length = k.n * k.size) {i j : Nat} (hi : i < k.n) (hj : j < k.n) {l : List UInt8} (hl : l.length = k.size) (b : Bool) : (k.sec4 i l b).at_ j = if j = i then l else k.at_ j := by
  have := at_lay hlen hi hj (l := l) (by omega)
  rw [show (k.sec4 i l b).at_ j = (k.lay i l).at_ j from rfl, this]
  split
  · rw [List.drop_of_length_le (by rw [at_len hlen hi]; omega), List.append_nil]
  · rfl
theorem OnRef.putSec (h : OnRef X w r L cap k) (i : Nat) (hi : i < k.n) {A : Option Addr} {c : Nat} {l : List UInt8} (b : Bool) (hB : Bs w A k.size c l) (hA : ∀ ad, A = some ad → ¬ X ad.block) : OnRef X (set4 w L i (.slice A k.size c) (.bool false) (.slice none 0 0) (.bool b)) r L cap (k.sec4 i l b) ∧ Touch (· = L) w (set4 w L i (.slice A k.size c) (.bool false) (.slice none 0 0) (.bool b)) := by
  have t : Touch (· = L) w (set4 w L i (.slice A k.size c) (.bool false) (.slice none 0 0) (.bool b)) := (((Touch.of_set (S := (· = L)) w (p := ⟨L, i * 4, none⟩) _ rfl).trans (Touch.of_set (S := (· = L)) _ (p := ⟨L, i * 4 + 1, none⟩) _ rfl)).trans (Touch.of_set (S := (· = L)) _ (p := ⟨L, i * 4 + 2, none⟩) _ rfl)).trans (Touch.of_set (S := (· = L)) _ (p := ⟨L, i * 4 + 3, none⟩) _ rfl)
  have r0 := h.rowL.set (i * 4) (.slice A k.size c)
  have r1 := r0.set (i * 4 + 1) (.bool false)
  have r2 := r1.set (i * 4 + 2) (.slice none 0 0)
  have hcap := h.ncap
  have hlb := hB.len
  refine ⟨h.upd t (r2.set (i * 4 + 3) (.bool b)) i (fun o ho => ?_) _ ⟨rfl, rfl, rfl, rfl⟩ (lay_len h.len hi (by omega)) (fun j hj hji => ⟨?_, ?_, ?_⟩) (fun _ => ?_), t⟩
  · unfold set4
    rw [r2.cell_ne _ _ _ (by omega), r1.cell_ne _ _ _ (by omega), r0.cell_ne _ _ _ (by omega), h.rowL.cell_ne _ _ _ (by omega)]
  · rw [sec4_at h.len hi hj hlb, if_neg hji]
  · simp [Dsk.sec4, Dsk.drop, Dsk.lay, hji]
  · simp [Dsk.sec4, Dsk.drop, Dsk.lay, hji]
  · unfold set4
    refine ⟨⟨A, c, ?_, ?_, hA⟩, ?_, ?_, ?_⟩
    · rw [r2.cell_ne _ _ _ (by omega), r1.cell_ne _ _ _ (by omega), r0.cell_ne _ _ _ (by omega), h.rowL.cell_set _ _ (by omega)]
      rfl
    · rw [sec4_at h.len hi hi hlb, if_pos rfl]
      exact h.keepBs t hB hA
    · rw [r2.cell_ne _ _ _ (by omega), r1.cell_ne _ _ _ (by omega), r0.cell_set _ _ (by omega)]
      simp [Dsk.sec4, Dsk.drop]
    · have e : (k.sec4 i l b).loose i = none := by simp [Dsk.sec4, Dsk.drop]
      rw [e]
      dsimp only
      rw [r2.cell_ne _ _ _ (by omega), r1.cell_set _ _ (by omega)]
    · rw [r2.cell_set _ _ (by omega)]
      simp [Dsk.sec4]
/-- New bytes for a sector: the flag, then (behind new memory) the bytes. -/
theorem OnRef.newSec (h : OnRef X w r L cap k) (i : Nat) (hi : i < k.n) {w5 : World} (hb : Below w.heap.size (w.setCell ⟨L, i * 4 + 1, none⟩ (.bool true)) w5) {A : Option Addr} {c : Nat} {l : List UInt8} (hB : Bs w5 A k.size c l) (hA : ∀ ad, A = some ad → ¬ X ad.block) : OnRef X (w5.setCell ⟨L, i * 4 + 2, none⟩ (.slice A k.size c)) r L cap (k.put i l) ∧ Touch (· = L) w (w5.setCell ⟨L, i * 4 + 2, none⟩ (.slice A k.size c)) := by
  have t5 : Touch (· = L) w w5 := (Touch.of_set (S := (· = L)) w (p := ⟨L, i * 4 + 1, none⟩) _ rfl).trans (Touch.of_below (by simpa using hb))
  have t : Touch (· = L) w (w5.setCell ⟨L, i * 4 + 2, none⟩ (.slice A k.size c)) := t5.trans (Touch.of_set (S := (· = L)) _ (p := ⟨L, i * 4 + 2, none⟩) _ rfl)
  have hL : L < w.heap.size := by obtain ⟨cur, h1, _⟩ := h.row; exact blk_lt h1
  have r1 := h.rowL.set (i * 4 + 1) (.bool true)
  have hblk : w5.heap[L]? = (w.setCell ⟨L, i * 4 + 1, none⟩ (.bool true)).heap[L]? := hb.block L hL
  have hc5 : ∀ o, w5.cell? ⟨L, o, none⟩ = (w.setCell ⟨L, i * 4 + 1, none⟩ (.bool true)).cell? ⟨L, o, none⟩ := fun o => by unfold World.cell?; rw [hblk]
  have r5 : RowL w5 L cap := by
    obtain ⟨cur, h1, h2⟩ := r1
    exact ⟨cur, hblk.trans h1, h2⟩
  have hcap := h.ncap
  refine ⟨h.upd t (r5.set (i * 4 + 2) _) i (fun o ho => ?_) _ ⟨rfl, rfl, rfl, rfl⟩ h.len (fun j hj hji => ⟨rfl, ?_, rfl⟩) (fun _ => ?_), t⟩
  · rw [r5.cell_ne _ _ _ (by omega), hc5, h.rowL.cell_ne _ _ _ (by omega)]
  · simp [Dsk.put, hji]
  · have hat := h.at_ i hi
    obtain ⟨FA, fc, f0, fB, fA⟩ := hat.f
    have e : (k.put i l).loose i = some l := by simp [Dsk.put]
    refine ⟨⟨FA, fc, ?_, h.keepBs t fB fA, fA⟩, ?_, ?_, ?_⟩
    · rw [r5.cell_ne _ _ _ (by omega), hc5, h.rowL.cell_ne _ _ _ (by omega)]
      exact f0
    · rw [e, r5.cell_ne _ _ _ (by omega), hc5, h.rowL.cell_set _ _ (by omega)]
      rfl
    · rw [e]
      exact ⟨A, c, r5.cell_set _ _ (by omega), hB.set (fun ad e e2 => hA ad e (e2 ▸ h.xL)) _, hA⟩
    · rw [r5.cell_ne _ _ _ (by omega), hc5, h.rowL.cell_ne _ _ _ (by omega)]
      exact hat.b
end
/-! ### what a barrier leaves -/
def Dsk.firm1 (k : Dsk) (i : Nat) : Dsk := match k.loose i with
  | none => k
  | some l => k.sec4 i l false
def Dsk.firmTo (k : Dsk) : Nat → Dsk
  | 0 => k
  | j + 1 => (k.firmTo j).firm1 j
def Dsk.firm (k : Dsk) : Dsk := k.firmTo k.n
structure Firm (k : Dsk) (P : Nat → Prop) (k2 : Dsk) : Prop where
  n : k2.n = k.n
  size : k2.size = k.size
  set : k2.set = k.set
  left : k2.left = k.left
  sp : k2.sp = k.sp
  len : k2.fast.length = k.n * k.size
  on : ∀ i, i < k.n → P i → k2.loose i = none ∧ match k.loose i with
    | none => k2.at_ i = k.at_ i ∧ k2.bad i = k.bad i
    | some l => k2.at_ i = l ∧ k2.bad i = false
  off : ∀ i, i < k.n → ¬ P i → k2.loose i = k.loose i ∧ k2.at_ i = k.at_ i ∧ k2.bad i = k.bad i
theorem firmTo_is (k : Dsk) (hlen : k.fast.length = k.n * k.size) (hl : ∀ i, i < k.n → ∀ l, k.loose i = some l → l.length = k.size) (j : Nat) (hj : j ≤ k.n) : Firm k (· < j) (k.firmTo j) := by
  induction j with
  | zero => exact ⟨rfl, rfl, rfl, rfl, rfl, hlen, fun i _ h => absurd h (Nat.not_lt_zero _), fun i _ _ => ⟨rfl, rfl, rfl⟩⟩
  | succ j ih =>
    have ih := ih (by omega)
    have hjn : j < k.n := by omega
    have ej := ih.off j hjn (Nat.lt_irrefl _)
    simp only [Dsk.firmTo, Dsk.firm1]
    cases hlo : k.loose j with
    | none =>
      rw [hlo] at ej
      rw [ej.1]
      refine { ih with on := fun i hi hp => ?_, off := fun i hi hp => ih.off i hi (fun h => hp (by omega)) }
      by_cases hij : i = j
      · subst hij
        rw [hlo]
        exact ej
      · exact ih.on i hi (by omega)
    | some l =>
      rw [hlo] at ej
      rw [ej.1]
      have hll := hl j hjn l hlo
      have hlen2 : (k.firmTo j).fast.length = (k.firmTo j).n * (k.firmTo j).size := by rw [ih.n, ih.size]; exact ih.len
      have hat := fun i hi => sec4_at hlen2 (by rw [ih.n]; exact hjn) (j := i) (by rw [ih.n]; exact hi) (l := l) (by rw [ih.size]; exact hll) false
      refine ⟨ih.n, ih.size, ih.set, ih.left, ih.sp, by rw [← ih.n, ← ih.size]; exact lay_len hlen2 (by rw [ih.n]; exact hjn) (by rw [ih.size]; omega), fun i hi hp => ?_, fun i hi hp => ?_⟩
      · by_cases hij : i = j
        · subst hij
          rw [hlo]
          exact ⟨by simp [Dsk.sec4, Dsk.drop], by rw [hat i hi, if_pos rfl], by simp [Dsk.sec4]⟩
        · have := ih.on i hi (by omega)
          rw [hat i hi, if_neg hij]
          have e1 : ((k.firmTo j).sec4 j l false).loose i = (k.firmTo j).loose i := by simp [Dsk.sec4, Dsk.drop, Dsk.lay, hij]
          have e2 : ((k.firmTo j).sec4 j l false).bad i = (k.firmTo j).bad i := by simp [Dsk.sec4, hij]
          rw [e1, e2]
          exact this
      · have hij : i ≠ j := by omega
        have := ih.off i hi (by omega)
        rw [hat i hi, if_neg hij]
        have e1 : ((k.firmTo j).sec4 j l false).loose i = (k.firmTo j).loose i := by simp [Dsk.sec4, Dsk.drop, Dsk.lay, hij]
        have e2 : ((k.firmTo j).sec4 j l false).bad i = (k.firmTo j).bad i := by simp [Dsk.sec4, hij]
        rw [e1, e2]
        exact this
theorem firm_alike {k k2 : Dsk} (hlen : k.fast.length = k.n * k.size) (hl : ∀ i, i < k.n → ∀ l, k.loose i = some l → l.length = k.size) {P : Nat → Prop} (hP : ∀ i, i < k.n → P i) (h : Firm k P k2) : Alike k2 k.firm := by
  have f := firmTo_is k hlen hl k.n (Nat.le_refl _)
  refine ⟨f.n.trans h.n.symm, f.size.trans h.size.symm, f.set.trans h.set.symm, f.left.trans h.left.symm, f.sp.trans h.sp.symm, by rw [h.n, h.size]; exact f.len, fun i hi => ?_, fun i hi => ?_, fun i hi => ?_⟩
  all_goals
    rw [h.n] at hi
    have a := f.on i hi hi
    have b := h.on i hi (hP i hi)
    unfold Dsk.firm
  · cases hlo : k.loose i <;> rw [hlo] at a b <;> exact a.2.1.trans b.2.1.symm
  · exact a.1.trans b.1.symm
  · cases hlo : k.loose i <;> rw [hlo] at a b <;> exact a.2.2.trans b.2.2.symm
end Go.Proofs.YtaldjmhikebecaaGreat
