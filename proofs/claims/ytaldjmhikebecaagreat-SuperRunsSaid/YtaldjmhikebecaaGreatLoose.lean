/- Layer 8 (sector): Loose. -/
import Derived.Test.YtaldjmhikebecaaGreatPower
import Derived.Test.YtaldjmhikebecaaGreatLay
import Derived.Lib.SlKeysI
namespace Go.Proofs.YtaldjmhikebecaaGreat
open Go Go.RowKit
set_option maxRecDepth 100000
set_option linter.unusedVariables false
attribute [local go_sem] Oper.semAt_some
/-- The sectors that are loose, in order. -/
def Dsk.looseL (k : Dsk) : List Nat := (List.range k.n).filter fun i => (k.loose i).isSome
theorem mem_looseL {k : Dsk} {i : Nat} : i ∈ k.looseL ↔ i < k.n ∧ (k.loose i).isSome = true := by simp [Dsk.looseL]
theorem pair_looseL (k : Dsk) : k.looseL.Pairwise (· < ·) := List.pairwise_lt_range.sublist List.filter_sublist
theorem looseL_length (k : Dsk) : k.looseL.length ≤ k.n := by
  have := List.length_filter_le (fun i => (k.loose i).isSome) (List.range k.n)
  simpa [Dsk.looseL] using this
def ints (l : List Nat) : List Int := l.map fun (i : Nat) => (i : Int)
theorem perm_looseL {w : World} {lb c : Nat} {k : Dsk} {X : Nat → Prop} {D : DataW Value} (hm : w.ownsMap Tryz.prog 3 rawR lb c D) (hl : LooseAt X w k D) : (ints k.looseL).Perm (intKeys D) := by
  obtain ⟨es, rfl, hp, hk⟩ := hm.entries int_law
  have hkey : ∀ p ∈ es, ∃ x, p.1 = .int .i64 x := by
    intro p hpm
    have : Maps.has (.map es) p.1 = true := by
      rw [Maps.has_eq, List.any_eq_true]
      exact ⟨p, hpm, WideAt.sameKey_self (hk p hpm)⟩
    obtain ⟨i, _, e⟩ := hl.keys _ this
    exact ⟨_, e⟩
  refine perm_intKeys hp hkey ?_ ?_
  · unfold ints List.Nodup
    rw [List.pairwise_map]
    exact (pair_looseL k).imp fun {a b} h => by omega
  · intro x
    constructor
    · intro hx
      obtain ⟨i, hi, rfl⟩ := List.mem_map.1 hx
      obtain ⟨h1, h2⟩ := mem_looseL.1 hi
      have := hl.at_ i h1
      split at this
      · rename_i e; rw [e] at h2; cases h2
      · exact this.1
    · intro hx
      obtain ⟨i, hi, e⟩ := hl.keys _ hx
      simp only [key, Lit.int.injEq, true_and] at e
      subst e
      refine List.mem_map.2 ⟨i, mem_looseL.2 ⟨hi, ?_⟩, rfl⟩
      have := hl.at_ i hi
      split at this
      · rw [show (Lit.int .i64 (i : Int)) = key i from rfl, this] at hx; cases hx
      · rename_i e; rw [e]; rfl
theorem sorted_looseL {w : World} {lb c : Nat} {k : Dsk} {X : Nat → Prop} {D : DataW Value} (hm : w.ownsMap Tryz.prog 3 rawR lb c D) (hl : LooseAt X w k D) {ss : List Int} (h : ss.Perm (intKeys D)) : ss.mergeSort (fun x y => decide (x ≤ y)) = ints k.looseL := by
  have h1 := mergeSort_of_perm_i (h.trans (perm_looseL hm hl).symm)
  rw [show ss.mergeSort (fun x y => decide (x ≤ y)) = ss.mergeSort leI from rfl, h1]
  apply List.mergeSort_of_pairwise
  unfold ints
  rw [List.pairwise_map]
  exact (pair_looseL k).imp fun {a b} h => by simp only [leI, decide_eq_true_eq]; omega
theorem Tryz.sortsA (m : Nat) : AnyZI.SortsIn Tryz.prog Tryz.sortedA_ren Fence.wide m :=
  ⟨fun blk off cap ss W hH hblk hsz => callsIn_wide.2 (AnyM.slices_Sort_int Tryz.sortA blk off cap ss W hH hblk hsz),
   fun p cap W => callsIn_wide.2 (AnyM.slices_Sort_int_none Tryz.sortA p cap W)⟩
def RetLoose (w : World) (k : Dsk) (e : Ending) (w' : World) : Prop :=
  ∃ A c, e = .returned (.slice A k.looseL.length c) ∧ w'.ownsRow w.heap.size 3 1 (.slice A k.looseL.length c) k.looseL.length ((ints k.looseL).map (Value.int .i64)) ∧ Below w.heap.size w w'
set_option maxHeartbeats 1000000 in
theorem Loose_ok {w : World} {d fb lb bb c : Nat} {k : Dsk} {X : Nat → Prop} (h : OnDisk X w d fb lb bb c k) : Calls Tryz.prog 47 #[.pointer (some ⟨d, 0, none⟩)] w (RetLoose w k) := by
  obtain ⟨D, hm, hl⟩ := h.loo
  have HMADE := Lib.hid (disk_made h)
  have c3 : w.cell? ⟨d, 3, none⟩ = some (.map (some lb)) := h.cell 3
  have hcnt := h.cnt
  have hsz := hm.size_le
  refine (callsIn_wide (n := 6)).1 ?_
  have hbl := hm.lt
  have hseq : SeqGives Fence.wide 2 Tryz.prog 105 #[.pointer (some ⟨w.heap.size, 0, none⟩)] encZ (fun ss => ss.Perm (intKeys D)) (Maps.size D) (w.alloc (.cells #[.map (some lb)] 77)) :=
    AnyZI.keys_gives (ρ := Tryz.keysA_ren) { Tryz.keysA with } Fence.wide _ trivial rfl (by omega) w.heap.size lb c D _ (by simp) (by simp) (by
      obtain ⟨es, clock, hb, Ft, hs, hD⟩ := hm
      exact ⟨es, clock, (Below.heap_alloc _ _ lb hbl).trans hb, Ft, hs, hD⟩)
  have cK : ∀ mb W, CallsIn Fence.wide 5 Tryz.prog 78 #[.map mb] W fun e w' => e = .returned (.func (.func 105) #[] #[.pointer (some ⟨W.heap.size, 0, none⟩)]) ∧ w' = W.alloc (.cells #[.map mb] 77) := fun mb W => AnyZI.keys_in Tryz.keysA Fence.wide 5 trivial rfl mb W
  have cS := AnyZI.sorted_in Tryz.sortedA Fence.wide 5 trivial trivial trivial trivial rfl (by omega) (Tryz.sortsA _) (enters_of Tryz.func104 (by kernel_rfl) rfl) 105 #[.pointer (some ⟨w.heap.size, 0, none⟩)] trivial (enters_of Tryz.func105 (by kernel_rfl) rfl) _ _ (by unfold maxLen; omega) (by omega) _ hseq
  change CallsIn _ _ Tryz.prog 77 _ _ _ at cS
  have hfK : Fence.wide.fn 78 := trivial
  have hfM : Fence.wide.fn 40 := trivial
  have hfS : Fence.wide.fn 77 := trivial
  have HS := Lib.hid (fun (ss : List Int) (hp : ss.Perm (intKeys D)) => sorted_looseL hm hl hp)
  clear hseq hm hl h hsz hcnt
  refine callsIn_of_wp Tryz.func47 rfl trivial ?_ rfl
  simp only [Tryz.ntmps47, List.size_toArray, List.length_cons, List.length_nil, Nat.reduceAdd, Nat.reduceSub, Array.replicate_succ, Array.replicate_zero, List.push_toArray, List.append_toArray, List.nil_append, List.cons_append]
  gi_wp2_with (first
    | (gi_at_call 40; refine (callsIn_wide.2 HMADE.out).mono ?_; rintro e w9 ⟨rfl, hw9⟩; obtain rfl := hw9.symm)
    | (gi_at_call 78; refine (cK _ _).mono ?_; rintro e w' ⟨rfl, rfl⟩)
    | (gi_at_call 77; refine cS.mono ?_; rintro e w' ⟨v, ss, rfl, hS, hrow, hnil, hb⟩))
  go_ret
  have hso := HS.out ss hS
  rw [hso] at hrow
  have hlen : ss.length = k.looseL.length := by
    have := congrArg List.length hso
    simpa [ints] using this
  rw [hlen] at hrow
  have hb2 := ((Below.refl _ w).alloc (Nat.le_refl _) (.cells #[.map (some lb)] 77)).trans (hb.mono (by simp))
  obtain ⟨A, c', rfl⟩ := own_form hrow
  exact ⟨A, c', rfl, ownsRow_base_a hrow (by simp), hb2⟩
end Go.Proofs.YtaldjmhikebecaaGreat
