/- SuperCrash: what the two saves and a crash leave (no program). -/
import Derived.Test.YtaldjmhikebecaaGreatAcc
import Derived.Test.YtaldjmhikebecaaGreatFastL
import Derived.Test.YtaldjmhikebecaaGreatSpoil
import Derived.Test.YtaldjmhikebecaaGreatSup
namespace Go.Proofs.YtaldjmhikebecaaGreat
open Go Go.RowKit
set_option maxRecDepth 100000
set_option linter.unusedVariables false
attribute [local go_sem] Oper.semAt_some
set_option maxHeartbeats 2000000 in
theorem run_neq_sup (a b : Sup) (h : a ≠ b) (W : World) : (binOp .eql 30 (.agg #[.int .u64 a.serial, .int .i64 a.epoch, .int .i64 a.view, .int .i64 a.normal, .int .i64 a.top, .int .i64 a.base, .int .i64 a.area, .int .i64 a.start, .int .u32 a.chain]) (.agg #[.int .u64 b.serial, .int .i64 b.epoch, .int .i64 b.view, .int .i64 b.normal, .int .i64 b.top, .int .i64 b.base, .int .i64 b.area, .int .i64 b.start, .int .u32 b.chain])).run Tryz.prog W = .ok (.bool false) W := by
  by_cases h0 : (a.serial : Int) = b.serial
  · by_cases h1 : a.epoch = b.epoch
    · by_cases h2 : a.view = b.view
      · by_cases h3 : a.normal = b.normal
        · by_cases h4 : a.top = b.top
          · by_cases h5 : a.base = b.base
            · by_cases h6 : a.area = b.area
              · by_cases h7 : a.start = b.start
                · by_cases h8 : (a.chain : Int) = b.chain
                  · exfalso
                    apply h
                    obtain ⟨a0, a1, a2, a3, a4, a5, a6, a7, a8⟩ := a
                    obtain ⟨b0, b1, b2, b3, b4, b5, b6, b7, b8⟩ := b
                    simp only at h0 h1 h2 h3 h4 h5 h6 h7 h8
                    obtain rfl : a0 = b0 := by omega
                    obtain rfl : a8 = b8 := by omega
                    subst h1 h2 h3 h4 h5 h6 h7
                    rfl
                  · have g : ((a.chain : Int) == b.chain) = false := by rw [beq_eq_false_iff_ne]; exact h8
                    rw [h0, h1, h2, h3, h4, h5, h6, h7]
                    clear h h0 h1 h2 h3 h4 h5 h6 h7 h8
                    go_simp
                · have g : (a.start == b.start) = false := by rw [beq_eq_false_iff_ne]; exact h7
                  rw [h0, h1, h2, h3, h4, h5, h6]
                  clear h h0 h1 h2 h3 h4 h5 h6 h7
                  go_simp
              · have g : (a.area == b.area) = false := by rw [beq_eq_false_iff_ne]; exact h6
                rw [h0, h1, h2, h3, h4, h5]
                clear h h0 h1 h2 h3 h4 h5 h6
                go_simp
            · have g : (a.base == b.base) = false := by rw [beq_eq_false_iff_ne]; exact h5
              rw [h0, h1, h2, h3, h4]
              clear h h0 h1 h2 h3 h4 h5
              go_simp
          · have g : (a.top == b.top) = false := by rw [beq_eq_false_iff_ne]; exact h4
            rw [h0, h1, h2, h3]
            clear h h0 h1 h2 h3 h4
            go_simp
        · have g : (a.normal == b.normal) = false := by rw [beq_eq_false_iff_ne]; exact h3
          rw [h0, h1, h2]
          clear h h0 h1 h2 h3
          go_simp
      · have g : (a.view == b.view) = false := by rw [beq_eq_false_iff_ne]; exact h2
        rw [h0, h1]
        clear h h0 h1 h2
        go_simp
    · have g : (a.epoch == b.epoch) = false := by rw [beq_eq_false_iff_ne]; exact h1
      rw [h0]
      clear h h0 h1
      go_simp
  · have g : ((a.serial : Int) == b.serial) = false := by rw [beq_eq_false_iff_ne]; exact h0
    clear h h0
    go_simp
end Go.Proofs.YtaldjmhikebecaaGreat
namespace Go.Proofs.YtaldjmhikebecaaGreat
open Go Go.RowKit
set_option maxRecDepth 100000
set_option linter.unusedVariables false
theorem puts1_loose (k : Dsk) (i : Nat) (l : List UInt8) (j : Nat) : (k.puts i l 1).loose j = if j = i then some (l.take k.size) else k.loose j := by simp [Dsk.puts, Dsk.put]
theorem padB_length (s : Sup) (n : Nat) (hn : 72 ≤ n) (hs : (supB s).length = 72) : (padB s n).length = n := by
  unfold padB
  rw [List.length_append, hs, List.length_replicate]
  exact pad_len n hn
theorem slot_of {k : Dsk} {i n : Nat} {s : Sup} (hf : s.fit) (ho : s.ok) (h : k.sec i = some (padB s n)) (hp : s.serial % 2 = i) : k.slot i = some s := by
  unfold Dsk.slot
  rw [read_sec, h]
  have hd : decode (padB s n) = (s, 0) := decode_back s hf ho _
  simp only
  rw [hd]
  exact if_pos ⟨rfl, hp⟩
theorem load_found {k : Dsk} {j : Nat} {s : Sup} (hj : j < 2) (h : k.slot j = some s) : (k.loadSt 2).2 = 0 := by
  have e : k.loadSt 2 = better (better (Sup.zero, 91) (k.slot 0)) (k.slot 1) := rfl
  rw [e]
  rcases (by omega : j = 0 ∨ j = 1) with rfl | rfl
  · rw [h]
    have e2 : better (Sup.zero, 91) (some s) = (s, 0) := by
      unfold better
      simp only
      rw [if_pos (Or.inl (by simp))]
    rw [e2]
    cases k.slot 1 with
    | none => rfl
    | some t =>
      unfold better
      simp only
      split <;> rfl
  · rw [h]
    generalize better (Sup.zero, 91) (k.slot 0) = st
    unfold better
    simp only
    split
    · rfl
    · rename_i hc
      exact Decidable.not_not.1 fun h => hc (Or.inl h)
theorem load_later {k : Dsk} {a b : Sup} {i j : Nat} (hi : k.slot i = some a) (hj : k.slot j = some b) (hij : (i = 0 ∧ j = 1) ∨ (i = 1 ∧ j = 0)) (h : a.serial < b.serial) : k.loadSt 2 = (b, 0) := by
  have e : k.loadSt 2 = better (better (Sup.zero, 91) (k.slot 0)) (k.slot 1) := rfl
  have e2 : ∀ s, better (Sup.zero, 91) (some s) = (s, 0) := fun s => by
    unfold better
    simp only
    rw [if_pos (Or.inl (by simp))]
  rw [e]
  rcases hij with ⟨rfl, rfl⟩ | ⟨rfl, rfl⟩
  · rw [hi, hj, e2]
    unfold better
    simp only
    rw [if_pos (Or.inr h)]
  · rw [hi, hj, e2]
    unfold better
    simp only
    rw [if_neg (by simp; omega)]
theorem crash_facts (old made : Sup) (hfo : old.fit) (hfm : made.fit) (hoo : old.ok) (hom : made.ok) (hlo : (supB old).length = 72) (hlm : (supB made).length = 72) (hm : made.serial = old.serial + 1) (n : Nat) (hn : 72 ≤ n)
    (hlen1 : ((Dsk.new 2 n).puts (old.serial % 2) (padB old n) 1).fast.length = 2 * n) (hlen3 : (Saved old made n).fast.length = (Saved old made n).n * (Saved old made n).size) (hl3 : ∀ i, i < (Saved old made n).n → ∀ l, (Saved old made n).loose i = some l → l.length = (Saved old made n).size) :
    (∀ sp, (({ Saved old made n with sp := sp } : Dsk).firm).loadSt 2 = (made, 0)) ∧ ∀ keep torn cut, (((Saved old made n).crash keep torn cut).loadSt 2).2 = 0 := by
  have hpo := padB_length old n hn hlo
  have hpm := padB_length made n hn hlm
  have ho2 : old.serial % 2 < 2 := Nat.mod_lt _ (by omega)
  have hm2 : made.serial % 2 < 2 := Nat.mod_lt _ (by omega)
  have hne : made.serial % 2 ≠ old.serial % 2 := by omega
  have hne' : old.serial % 2 ≠ made.serial % 2 := by omega
  have hl1 : ∀ i, i < ((Dsk.new 2 n).puts (old.serial % 2) (padB old n) 1).n → ∀ l, ((Dsk.new 2 n).puts (old.serial % 2) (padB old n) 1).loose i = some l → l.length = ((Dsk.new 2 n).puts (old.serial % 2) (padB old n) 1).size := by
    intro i _ l hl
    rw [puts1_loose] at hl
    split at hl
    · injection hl with hl
      rw [← hl, List.length_take]
      show min n (padB old n).length = n
      omega
    · cases hl
  have f1 := firmTo_is ((Dsk.new 2 n).puts (old.serial % 2) (padB old n) 1) hlen1 hl1 2 (Nat.le_refl _)
  have g1 := f1.on (old.serial % 2) ho2 ho2
  rw [puts1_loose, if_pos rfl] at g1
  have hK2n : ((Dsk.new 2 n).puts (old.serial % 2) (padB old n) 1).firm.n = 2 := f1.n
  have hK2s : ((Dsk.new 2 n).puts (old.serial % 2) (padB old n) 1).firm.size = n := f1.size
  have e1 : (padB old n).take (Dsk.new 2 n).size = padB old n := List.take_of_length_le (by show (padB old n).length ≤ n; omega)
  rw [e1] at g1
  have g1a : ((Dsk.new 2 n).puts (old.serial % 2) (padB old n) 1).firm.loose (old.serial % 2) = none := g1.1
  have g1b : ((Dsk.new 2 n).puts (old.serial % 2) (padB old n) 1).firm.at_ (old.serial % 2) = padB old n := g1.2.1
  have g1c : ((Dsk.new 2 n).puts (old.serial % 2) (padB old n) 1).firm.bad (old.serial % 2) = false := g1.2.2
  have k3a : (Saved old made n).loose (old.serial % 2) = none := by
    unfold Saved
    rw [puts1_loose, if_neg hne']
    exact g1a
  have k3b : (Saved old made n).at_ (old.serial % 2) = padB old n := g1b
  have k3c : (Saved old made n).bad (old.serial % 2) = false := g1c
  have k3d : (Saved old made n).loose (made.serial % 2) = some (padB made n) := by
    unfold Saved
    rw [puts1_loose, if_pos rfl, hK2s, List.take_of_length_le (by omega)]
  have k3n : (Saved old made n).n = 2 := hK2n
  have k3s : (Saved old made n).sec (old.serial % 2) = some (padB old n) := by
    unfold Dsk.sec
    rw [k3a, k3c, k3b]
    rfl
  refine ⟨fun sp => ?_, fun keep torn cut => ?_⟩
  · have f3 := firmTo_is ({ Saved old made n with sp := sp } : Dsk) hlen3 hl3 (Saved old made n).n (Nat.le_refl _)
    have a1 := f3.on (old.serial % 2) (by show _ < (Saved old made n).n; omega) (by omega)
    have a2 := f3.on (made.serial % 2) (by show _ < (Saved old made n).n; omega) (by omega)
    rw [show ({ Saved old made n with sp := sp } : Dsk).loose (old.serial % 2) = none from k3a] at a1
    rw [show ({ Saved old made n with sp := sp } : Dsk).loose (made.serial % 2) = some (padB made n) from k3d] at a2
    have s1 : (({ Saved old made n with sp := sp } : Dsk).firm).sec (old.serial % 2) = some (padB old n) := by
      unfold Dsk.sec Dsk.firm
      rw [a1.1, a1.2.2, a1.2.1]
      show (if (Saved old made n).bad (old.serial % 2) = true then none else some ((Saved old made n).at_ (old.serial % 2))) = _
      rw [k3c, k3b]
      rfl
    have s2 : (({ Saved old made n with sp := sp } : Dsk).firm).sec (made.serial % 2) = some (padB made n) := by
      unfold Dsk.sec Dsk.firm
      rw [a2.1, a2.2.2, a2.2.1]
      rfl
    exact load_later (slot_of hfo hoo s1 rfl) (slot_of hfm hom s2 rfl) (by omega) (by omega)
  · have h := crash_still (keep := keep) (torn := torn) (cut := cut) hlen3 hl3 (i := old.serial % 2) (by omega) k3a
    rw [k3s] at h
    exact load_found ho2 (slot_of hfo hoo h rfl)
end Go.Proofs.YtaldjmhikebecaaGreat
