/- Layer 8 (sector): a crash, sector by sector, as the reference does it. -/
import Derived.Test.YtaldjmhikebecaaGreatAlike
namespace Go.Proofs.YtaldjmhikebecaaGreat
open Go Go.RowKit
set_option maxRecDepth 100000
set_option linter.unusedVariables false
/-- The first j loose sectors have been dealt with. -/
def Dsk.falling (k : Dsk) (keep : List Bool) (torn cut : Int) (j : Nat) : Dsk := { k.crashAt keep torn cut j with loose := fun i => if i ∈ k.looseL.take j then none else k.loose i }
section
variable {k : Dsk} {keep : List Bool} {torn cut : Int} {j q : Nat} {ln : List UInt8}
theorem cutN_le : cutN cut k.size ≤ k.size := Nat.min_le_right _ _
theorem crashAt_len (hlen : k.fast.length = k.n * k.size) (hl : ∀ i, i < k.n → ∀ l, k.loose i = some l → l.length = k.size) (j : Nat) (hj : j ≤ k.looseL.length) : (k.crashAt keep torn cut j).fast.length = k.n * k.size := by
  induction j with
  | zero => exact hlen
  | succ j ih =>
    have ih := ih (by omega)
    have d := crashAt_dims k keep torn cut j
    have hqe : k.looseL[j]? = some (k.looseL.getD j 0) := by rw [List.getD_eq_getElem?_getD, List.getElem?_eq_getElem (by omega)]; rfl
    have hqm := mem_looseL.1 (List.mem_of_getElem? hqe)
    obtain ⟨l, hlo⟩ := Option.isSome_iff_exists.1 hqm.2
    have hll := hl _ hqm.1 l hlo
    have key : ∀ l2 : List UInt8, l2.length ≤ k.size → ((k.crashAt keep torn cut j).lay (k.looseL.getD j 0) l2).fast.length = k.n * k.size := fun l2 h2 => by
      rw [← d.1, ← d.2.1]
      exact lay_len (by rw [d.1, d.2.1]; exact ih) (by rw [d.1]; exact hqm.1) (by rw [d.2.1]; exact h2)
    simp only [Dsk.crashAt]
    rw [hlo]
    simp only [Option.getD_some]
    split
    · split
      · exact ih
      · exact key _ (by rw [List.length_take]; have := cutN_le (k := k) (cut := cut); omega)
    · split
      · exact key _ (by omega)
      · exact ih
theorem falling_dims : (k.falling keep torn cut j).n = k.n ∧ (k.falling keep torn cut j).size = k.size ∧ (k.falling keep torn cut j).set = k.set ∧ (k.falling keep torn cut j).left = k.left := by
  have d := crashAt_dims k keep torn cut j
  exact ⟨d.1, d.2.1, d.2.2.2.1, d.2.2.2.2⟩
theorem falling_loose (hqe : k.looseL[j]? = some q) (hlo : k.loose q = some ln) : (k.falling keep torn cut j).loose q = some ln := by
  have : q ∉ k.looseL.take j := by
    intro hm
    obtain ⟨x, hx, hx2⟩ := List.mem_take_iff_getElem.1 hm
    have hp := pair_looseL k
    obtain ⟨hj, e⟩ := List.getElem?_eq_some_iff.1 hqe
    have := List.pairwise_iff_getElem.1 hp x j (by omega) hj (by omega)
    omega
  simp only [Dsk.falling, if_neg this, hlo]
theorem fall_alike (hlen : k.fast.length = k.n * k.size) (hl : ∀ i, i < k.n → ∀ l, k.loose i = some l → l.length = k.size) (hqe : k.looseL[j]? = some q) (hq : q < k.n) {l : List UInt8} {b : Bool} (hll : l.length = k.size)
    (hat : ∀ i, i < k.n → (k.crashAt keep torn cut (j + 1)).at_ i = if i = q then l else (k.crashAt keep torn cut j).at_ i) (hbad : ∀ i, i < k.n → (k.crashAt keep torn cut (j + 1)).bad i = if i = q then b else (k.crashAt keep torn cut j).bad i) :
    Alike ((k.falling keep torn cut j).sec4 q l b) (k.falling keep torn cut (j + 1)) := by
  obtain ⟨hj, eq⟩ := List.getElem?_eq_some_iff.1 hqe
  have d := falling_dims (k := k) (keep := keep) (torn := torn) (cut := cut) (j := j)
  have d' := falling_dims (k := k) (keep := keep) (torn := torn) (cut := cut) (j := j + 1)
  have hlj : (k.falling keep torn cut j).fast.length = (k.falling keep torn cut j).n * (k.falling keep torn cut j).size := by rw [d.1, d.2.1]; exact crashAt_len hlen hl j (by omega)
  refine ⟨d'.1.trans d.1.symm, d'.2.1.trans d.2.1.symm, d'.2.2.1.trans d.2.2.1.symm, d'.2.2.2.trans d.2.2.2.symm, (crashAt_sp _ _ _ _ _).trans (crashAt_sp _ _ _ _ _).symm, ?_, fun i hi => ?_, fun i hi => ?_, fun i hi => ?_⟩
  · show (k.crashAt keep torn cut (j + 1)).fast.length = (k.falling keep torn cut j).n * (k.falling keep torn cut j).size
    rw [d.1, d.2.1]
    exact crashAt_len hlen hl (j + 1) (by omega)
  · have hi' : i < k.n := by rw [← d.1]; exact hi
    rw [sec4_at hlj (by rw [d.1]; exact hq) (by rw [d.1]; exact hi') (by rw [d.2.1]; exact hll)]
    exact hat i hi'
  · simp only [Dsk.falling, Dsk.sec4, Dsk.drop, Dsk.lay]
    rw [List.take_succ_eq_append_getElem hj, eq]
    by_cases h1 : i = q
    · subst h1; simp
    · by_cases h2 : i ∈ k.looseL.take j <;> simp [h1, h2]
  · have hi' : i < k.n := by rw [← d.1]; exact hi
    exact hbad i hi'
theorem fall_bad (hlen : k.fast.length = k.n * k.size) (hl : ∀ i, i < k.n → ∀ l, k.loose i = some l → l.length = k.size) (hqe : k.looseL[j]? = some q) (hq : q < k.n) (ht : (j : Int) = torn) (hb : (k.falling keep torn cut j).bad q = true) :
    Alike ((k.falling keep torn cut j).sec4 q ((k.falling keep torn cut j).at_ q) true) (k.falling keep torn cut (j + 1)) := by
  have hj := (List.getElem?_eq_some_iff.1 hqe).1
  have d := crashAt_dims k keep torn cut j
  have hD : k.looseL.getD j 0 = q := by rw [List.getD_eq_getElem?_getD, hqe]; rfl
  have e : k.crashAt keep torn cut (j + 1) = k.crashAt keep torn cut j := by simp only [Dsk.crashAt]; rw [if_pos ht, hD, if_pos (show (k.crashAt keep torn cut j).bad q = true from hb)]
  refine fall_alike hlen hl hqe hq ?_ (fun i hi => ?_) (fun i hi => ?_)
  · have := at_len (k := k.crashAt keep torn cut j) (i := q) (by rw [d.1, d.2.1]; exact crashAt_len hlen hl j (by omega)) (by rw [d.1]; exact hq)
    rw [d.2.1] at this
    exact this
  · rw [e]; split
    · rename_i h; subst h; rfl
    · rfl
  · rw [e]; split
    · rename_i h; subst h; exact hb
    · rfl
theorem fall_torn (hlen : k.fast.length = k.n * k.size) (hl : ∀ i, i < k.n → ∀ l, k.loose i = some l → l.length = k.size) (hqe : k.looseL[j]? = some q) (hq : q < k.n) (hlo : k.loose q = some ln) (ht : (j : Int) = torn) (hb : (k.falling keep torn cut j).bad q = false) :
    Alike ((k.falling keep torn cut j).sec4 q (ln.take (cutN cut k.size) ++ ((k.falling keep torn cut j).at_ q).drop (cutN cut k.size)) false) (k.falling keep torn cut (j + 1)) := by
  have hj := (List.getElem?_eq_some_iff.1 hqe).1
  have d := crashAt_dims k keep torn cut j
  have hD : k.looseL.getD j 0 = q := by rw [List.getD_eq_getElem?_getD, hqe]; rfl
  have hb' : (k.crashAt keep torn cut j).bad q = false := hb
  have e : k.crashAt keep torn cut (j + 1) = (k.crashAt keep torn cut j).lay q (ln.take (cutN cut k.size)) := by
    simp only [Dsk.crashAt]; rw [if_pos ht, hD, hb', hlo]; rfl
  have hlj : (k.crashAt keep torn cut j).fast.length = (k.crashAt keep torn cut j).n * (k.crashAt keep torn cut j).size := by rw [d.1, d.2.1]; exact crashAt_len hlen hl j (by omega)
  have hla := at_len hlj (i := q) (by rw [d.1]; exact hq)
  rw [d.2.1] at hla
  have hla' : ((k.falling keep torn cut j).at_ q).length = k.size := hla
  have hlnl := hl q hq ln hlo
  have hcl := cutN_le (k := k) (cut := cut)
  refine fall_alike hlen hl hqe hq ?_ (fun i hi => ?_) (fun i hi => ?_)
  · rw [List.length_append, List.length_take, List.length_drop, hla']
    omega
  · rw [e, at_lay hlj (by rw [d.1]; exact hq) (by rw [d.1]; exact hi) (by rw [d.2.1, List.length_take]; omega)]
    have : (ln.take (cutN cut k.size)).length = cutN cut k.size := by rw [List.length_take]; omega
    rw [this]
    rfl
  · rw [e]; split
    · rename_i h; subst h; exact hb
    · rfl
theorem fall_keep (hlen : k.fast.length = k.n * k.size) (hl : ∀ i, i < k.n → ∀ l, k.loose i = some l → l.length = k.size) (hqe : k.looseL[j]? = some q) (hq : q < k.n) (hlo : k.loose q = some ln) (ht : ¬ (j : Int) = torn) (hk : keep.getD j false = true) :
    Alike ((k.falling keep torn cut j).sec4 q ln false) (k.falling keep torn cut (j + 1)) := by
  have hj := (List.getElem?_eq_some_iff.1 hqe).1
  have d := crashAt_dims k keep torn cut j
  have hD : k.looseL.getD j 0 = q := by rw [List.getD_eq_getElem?_getD, hqe]; rfl
  have e : k.crashAt keep torn cut (j + 1) = (k.crashAt keep torn cut j).keep q ln := by
    simp only [Dsk.crashAt]; rw [if_neg ht, if_pos hk, hD, hlo]; rfl
  have hlj : (k.crashAt keep torn cut j).fast.length = (k.crashAt keep torn cut j).n * (k.crashAt keep torn cut j).size := by rw [d.1, d.2.1]; exact crashAt_len hlen hl j (by omega)
  have hla := at_len hlj (i := q) (by rw [d.1]; exact hq)
  rw [d.2.1] at hla
  have hlnl := hl q hq ln hlo
  refine fall_alike hlen hl hqe hq hlnl (fun i hi => ?_) (fun i hi => ?_)
  · rw [e, show ((k.crashAt keep torn cut j).keep q ln).at_ i = ((k.crashAt keep torn cut j).lay q ln).at_ i from rfl, at_lay hlj (by rw [d.1]; exact hq) (by rw [d.1]; exact hi) (by rw [d.2.1]; omega), List.drop_of_length_le (by rw [hla]; omega), List.append_nil]
  · rw [e]
    rfl
theorem fall_none (hlen : k.fast.length = k.n * k.size) (hl : ∀ i, i < k.n → ∀ l, k.loose i = some l → l.length = k.size) (hqe : k.looseL[j]? = some q) (hq : q < k.n) (ht : ¬ (j : Int) = torn) (hk : keep.getD j false = false) :
    Alike ((k.falling keep torn cut j).sec4 q ((k.falling keep torn cut j).at_ q) ((k.falling keep torn cut j).bad q)) (k.falling keep torn cut (j + 1)) := by
  have hj := (List.getElem?_eq_some_iff.1 hqe).1
  have d := crashAt_dims k keep torn cut j
  have e : k.crashAt keep torn cut (j + 1) = k.crashAt keep torn cut j := by simp only [Dsk.crashAt]; rw [if_neg ht, hk]; rfl
  refine fall_alike hlen hl hqe hq ?_ (fun i hi => ?_) (fun i hi => ?_)
  · have := at_len (k := k.crashAt keep torn cut j) (i := q) (by rw [d.1, d.2.1]; exact crashAt_len hlen hl j (by omega)) (by rw [d.1]; exact hq)
    rw [d.2.1] at this
    exact this
  · rw [e]; split
    · rename_i h; subst h; rfl
    · rfl
  · rw [e]; split
    · rename_i h; subst h; rfl
    · rfl
theorem fall_end (hlen : k.fast.length = k.n * k.size) (hl : ∀ i, i < k.n → ∀ l, k.loose i = some l → l.length = k.size) : Alike { k.falling keep torn cut k.looseL.length with set := false, left := 0 } { k.crash keep torn cut with left := 0 } := by
  have d := crashAt_dims k keep torn cut k.looseL.length
  refine ⟨rfl, rfl, rfl, rfl, rfl, ?_, fun i hi => rfl, fun i hi => ?_, fun i hi => rfl⟩
  · show (k.crashAt keep torn cut k.looseL.length).fast.length = (k.crashAt keep torn cut k.looseL.length).n * (k.crashAt keep torn cut k.looseL.length).size
    rw [d.1, d.2.1]
    exact crashAt_len hlen hl _ (Nat.le_refl _)
  · have hi' : i < k.n := by rw [← d.1]; exact hi
    show none = if i ∈ k.looseL.take k.looseL.length then none else k.loose i
    rw [List.take_length]
    split
    · rfl
    · rename_i h
      cases hlo : k.loose i with
      | none => rfl
      | some l => exact absurd (mem_looseL.2 ⟨hi', by rw [hlo]; rfl⟩) h
end
end Go.Proofs.YtaldjmhikebecaaGreat
