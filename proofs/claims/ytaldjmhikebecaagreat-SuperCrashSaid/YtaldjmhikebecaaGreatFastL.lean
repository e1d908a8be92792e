/- Layer 8 (sector): what a crash makes of each sector (no program). -/
import Derived.Test.YtaldjmhikebecaaGreatFall
namespace Go.Proofs.YtaldjmhikebecaaGreat
open Go Go.RowKit
set_option maxRecDepth 100000
set_option linter.unusedVariables false
theorem read_sec (k : Dsk) (i : Nat) : k.read i 1 = k.sec i := by
  simp only [Dsk.read]
  rw [Nat.add_zero]
  cases k.sec i <;> rfl
structure SameFast (k k' : Dsk) : Prop where
  n : k'.n = k.n
  size : k'.size = k.size
  fast : k'.fast = k.fast
  bad : k'.bad = k.bad
theorem SameFast.refl (k : Dsk) : SameFast k k := ⟨rfl, rfl, rfl, rfl⟩
theorem SameFast.trans {a b c : Dsk} (h : SameFast a b) (g : SameFast b c) : SameFast a c := ⟨g.n.trans h.n, g.size.trans h.size, g.fast.trans h.fast, g.bad.trans h.bad⟩
theorem SameFast.at_ {k k' : Dsk} (h : SameFast k k') (i : Nat) : k'.at_ i = k.at_ i := by unfold Dsk.at_; rw [h.fast, h.size]
section
variable {k : Dsk} {keep : List Bool} {torn cut : Int}
theorem crash_step {j q : Nat} {l : List UInt8} (hq : k.looseL[j]? = some q) (hlo : k.loose q = some l) :
    k.crashAt keep torn cut (j + 1) = k.crashAt keep torn cut j ∨ ((j : Int) = torn ∧ (k.crashAt keep torn cut j).bad q = false ∧ k.crashAt keep torn cut (j + 1) = (k.crashAt keep torn cut j).lay q (l.take (cutN cut k.size))) ∨ k.crashAt keep torn cut (j + 1) = (k.crashAt keep torn cut j).keep q l := by
  have hD : k.looseL.getD j 0 = q := by rw [List.getD_eq_getElem?_getD, hq]; rfl
  have hg : (k.loose (k.looseL.getD j 0)).getD [] = l := by rw [hD, hlo]; rfl
  have e : k.crashAt keep torn cut (j + 1) = if (j : Int) = torn then (if (k.crashAt keep torn cut j).bad (k.looseL.getD j 0) then k.crashAt keep torn cut j else (k.crashAt keep torn cut j).lay (k.looseL.getD j 0) (((k.loose (k.looseL.getD j 0)).getD []).take (cutN cut k.size))) else if keep.getD j false then (k.crashAt keep torn cut j).keep (k.looseL.getD j 0) ((k.loose (k.looseL.getD j 0)).getD []) else k.crashAt keep torn cut j := rfl
  rw [hD] at e
  rw [hD] at hg
  rw [hg] at e
  by_cases ht : (j : Int) = torn
  · rw [if_pos ht] at e
    cases hb : (k.crashAt keep torn cut j).bad q with
    | true =>
      rw [hb] at e
      exact .inl e
    | false =>
      rw [hb] at e
      exact .inr (.inl ⟨ht, rfl, e⟩)
  · rw [if_neg ht] at e
    cases hb : keep.getD j false with
    | true =>
      rw [hb] at e
      exact .inr (.inr e)
    | false =>
      rw [hb] at e
      exact .inl e
theorem crash_sec (i : Nat) : (k.crash keep torn cut).sec i = if (k.crashAt keep torn cut k.looseL.length).bad i then none else some ((k.crashAt keep torn cut k.looseL.length).at_ i) := rfl
variable (hlen : k.fast.length = k.n * k.size) (hl : ∀ i, i < k.n → ∀ l, k.loose i = some l → l.length = k.size)
include hlen hl
theorem crash_ne {j q i : Nat} (hj : j < k.looseL.length) (hq : k.looseL[j]? = some q) (hi : i < k.n) (hne : i ≠ q) : (k.crashAt keep torn cut (j + 1)).at_ i = (k.crashAt keep torn cut j).at_ i ∧ (k.crashAt keep torn cut (j + 1)).bad i = (k.crashAt keep torn cut j).bad i := by
  have hqm := mem_looseL.1 (List.mem_of_getElem? hq)
  obtain ⟨l, hlo⟩ := Option.isSome_iff_exists.1 hqm.2
  have hll := hl _ hqm.1 l hlo
  have d := crashAt_dims k keep torn cut j
  have hlj : (k.crashAt keep torn cut j).fast.length = (k.crashAt keep torn cut j).n * (k.crashAt keep torn cut j).size := by rw [d.1, d.2.1]; exact crashAt_len hlen hl j (by omega)
  have hat : ∀ l2 : List UInt8, l2.length ≤ k.size → ((k.crashAt keep torn cut j).lay q l2).at_ i = (k.crashAt keep torn cut j).at_ i := fun l2 h2 => by
    rw [at_lay hlj (by rw [d.1]; exact hqm.1) (by rw [d.1]; exact hi) (by rw [d.2.1]; exact h2), if_neg hne]
  rcases crash_step (keep := keep) (torn := torn) (cut := cut) hq hlo with e | ⟨_, _, e⟩ | e
  · rw [e]; exact ⟨rfl, rfl⟩
  · rw [e]; exact ⟨hat _ (by rw [List.length_take]; omega), rfl⟩
  · rw [e]
    refine ⟨hat _ (by omega), ?_⟩
    simp [Dsk.keep, Dsk.good, Dsk.lay, hne]
theorem crash_far {i : Nat} (hi : i < k.n) (j1 j2 : Nat) (h12 : j1 ≤ j2) (h2 : j2 ≤ k.looseL.length) (hno : ∀ j, j1 ≤ j → j < j2 → k.looseL[j]? ≠ some i) : (k.crashAt keep torn cut j2).at_ i = (k.crashAt keep torn cut j1).at_ i ∧ (k.crashAt keep torn cut j2).bad i = (k.crashAt keep torn cut j1).bad i := by
  induction j2 with
  | zero => obtain rfl : j1 = 0 := by omega
            exact ⟨rfl, rfl⟩
  | succ j ih =>
    rcases Nat.lt_or_ge j1 (j + 1) with h | h
    · have := ih (by omega) (by omega) fun j' h1 h2 => hno j' h1 (by omega)
      have hqe : k.looseL[j]? = some (k.looseL[j]'(by omega)) := List.getElem?_eq_getElem (by omega)
      have hs := crash_ne (keep := keep) (torn := torn) (cut := cut) hlen hl (by omega) hqe hi (fun e => hno j (by omega) (by omega) (by rw [e]; exact hqe))
      exact ⟨hs.1.trans this.1, hs.2.trans this.2⟩
    · obtain rfl : j1 = j + 1 := by omega
      exact ⟨rfl, rfl⟩
theorem crash_still {i : Nat} (hi : i < k.n) (hlo : k.loose i = none) : (k.crash keep torn cut).sec i = k.sec i := by
  have h := crash_far (keep := keep) (torn := torn) (cut := cut) hlen hl hi 0 k.looseL.length (Nat.zero_le _) (Nat.le_refl _) fun j _ _ e => by
    have := (mem_looseL.1 (List.mem_of_getElem? e)).2
    rw [hlo] at this
    cases this
  rw [crash_sec, h.1, h.2, Dsk.sec, hlo]
  rfl
theorem crash_loose {i kk : Nat} {b : List UInt8} (hi : i < k.n) (hkk : k.looseL[kk]? = some i) (hlo : k.loose i = some b) :
    (k.crash keep torn cut).sec i = some b ∨ (k.crash keep torn cut).sec i = (if k.bad i then none else some (k.at_ i)) ∨
    ((kk : Int) = torn ∧ k.bad i = false ∧ ∃ x n0, (k.crash keep torn cut).sec i = some x ∧ n0 ≤ x.length ∧ x.length = k.size ∧ x.take n0 = b.take n0 ∧ x.drop n0 = (k.at_ i).drop n0) := by
  have hkl := (List.getElem?_eq_some_iff.1 hkk).1
  have hp := pair_looseL k
  have huniq : ∀ j, j ≠ kk → k.looseL[j]? ≠ some i := fun j hj e => by
    obtain ⟨h1, e1⟩ := List.getElem?_eq_some_iff.1 e
    obtain ⟨h2, e2⟩ := List.getElem?_eq_some_iff.1 hkk
    rcases Nat.lt_or_gt_of_ne hj with h | h
    · have := List.pairwise_iff_getElem.1 hp j kk h1 h2 h
      omega
    · have := List.pairwise_iff_getElem.1 hp kk j h2 h1 h
      omega
  have f1 := crash_far (keep := keep) (torn := torn) (cut := cut) hlen hl hi 0 kk (Nat.zero_le _) (by omega) fun j _ h => huniq j (by omega)
  have f2 := crash_far (keep := keep) (torn := torn) (cut := cut) hlen hl hi (kk + 1) k.looseL.length (by omega) (Nat.le_refl _) fun j h _ => huniq j (by omega)
  have f1a : (k.crashAt keep torn cut kk).at_ i = k.at_ i := f1.1
  have f1b : (k.crashAt keep torn cut kk).bad i = k.bad i := f1.2
  have hll := hl _ hi b hlo
  have d := crashAt_dims k keep torn cut kk
  have hlj : (k.crashAt keep torn cut kk).fast.length = (k.crashAt keep torn cut kk).n * (k.crashAt keep torn cut kk).size := by rw [d.1, d.2.1]; exact crashAt_len hlen hl kk (by omega)
  have hal := at_len hlen hi
  rw [crash_sec, f2.1, f2.2]
  rcases crash_step (keep := keep) (torn := torn) (cut := cut) hkk hlo with e | ⟨ht, hb, e⟩ | e
  · rw [e, f1a, f1b]
    exact .inr (.inl rfl)
  · have hc : cutN cut k.size ≤ k.size := cutN_le
    have hat : (k.crashAt keep torn cut (kk + 1)).at_ i = b.take (cutN cut k.size) ++ (k.at_ i).drop (cutN cut k.size) := by
      rw [e, at_lay hlj (by rw [d.1]; exact hi) (by rw [d.1]; exact hi) (by rw [d.2.1, List.length_take]; omega), if_pos rfl, f1a, List.length_take, hll, Nat.min_eq_left hc]
    have hb2 : (k.crashAt keep torn cut (kk + 1)).bad i = false := by rw [e]; exact hb
    rw [f1b] at hb
    rw [hat, hb2]
    have hlt : (b.take (cutN cut k.size)).length = cutN cut k.size := by rw [List.length_take]; omega
    refine .inr (.inr ⟨ht, hb, _, cutN cut k.size, rfl, ?_, ?_, ?_, ?_⟩)
    · rw [List.length_append, hlt]; omega
    · rw [List.length_append, hlt, List.length_drop, hal]; omega
    · exact List.take_left' hlt
    · exact List.drop_left' hlt
  · have hat : (k.crashAt keep torn cut (kk + 1)).at_ i = b := by
      rw [e]
      show ((k.crashAt keep torn cut kk).lay i b).at_ i = b
      rw [at_lay hlj (by rw [d.1]; exact hi) (by rw [d.1]; exact hi) (by rw [d.2.1]; omega), if_pos rfl, f1a, List.drop_of_length_le (by omega), List.append_nil]
    have hb2 : (k.crashAt keep torn cut (kk + 1)).bad i = false := by rw [e]; simp [Dsk.keep, Dsk.good]
    rw [hat, hb2]
    exact .inl rfl
end
end Go.Proofs.YtaldjmhikebecaaGreat
