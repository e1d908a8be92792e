/- From the rows' readings to the walks: a row of a disk's calls. -/
import Derived.Test.YtaldjmhikebecaaRowOp
namespace Go.Proofs.Ytaldjmhikebecaa
open Go.ChangeShapes Go.WideShapes Go.ChangeAt Go.RowKit Go.Deep
set_option linter.unusedVariables false
set_option maxRecDepth 100000
/-- A row of calls in memory. -/
structure OpsAt (W : World) (A : Option Addr) (n c : Nat) : Prop where
  le : n ≤ c
  max : c ≤ maxLen
  at_ : ∀ j, j < n → ∃ ad, A = some ad ∧ ∃ o : OpV, (∀ i v, o.cells[i]? = some v → W.cell? ((ad.add (j * 7)).add i) = some v) ∧ OpAt W o
theorem OpsAt.below {W W' : World} {A : Option Addr} {n c : Nat} (h : OpsAt W A n c) (hb : Below W.heap.size W W') : OpsAt W' A n c :=
  ⟨h.le, h.max, fun j hj => by
    obtain ⟨ad, e, o, h1, h2⟩ := h.at_ j hj
    exact ⟨ad, e, o, fun i v hv => cell_keep hb (h1 i v hv), h2.below hb⟩⟩
theorem cells_get {W : World} {base : Nat} {ad : Addr} {n : Nat} {cs : List Value} (h : W.cells? base ad n = some cs) : ∀ i v, cs[i]? = some v → W.cell? (ad.add i) = some v := by
  obtain ⟨_, hl, hc⟩ := World.cells?_some h
  intro i v hv
  have hi : i < n := by
    have := (List.getElem?_eq_some_iff.1 hv).1
    omega
  rw [hc i hi]
  exact hv
section
variable {H : Type} {enc : TypeId × Value → H}
theorem trod_ops {W : World} {base fuel : Nat} {held : Bool} {cs : List Value} {x : DataW H × List MemPlace} (hf : DataW.trod enc Try.prog W base (fun _ => true) held fuel 36 cs = some x) : ∃ A n c, cs = [.slice A n c] ∧ OpsAt W A n c := by
  have c7 : Try.prog.cellsOf 46 = 7 := by kernel_rfl
  rcases DataW.trod_slice Try.underlying36 hf with ⟨h1, _⟩ | ⟨a, len, cap, elems, rest, n, _, h1, _, _, h2, h3, h4, h5, _⟩
  · exact ⟨none, 0, 0, h1, Nat.le_refl _, by decide, fun j hj => absurd hj (Nat.not_lt_zero j)⟩
  · refine ⟨some a, len, cap, h1, h2, h3, fun j hj => ⟨a, rfl, ?_⟩⟩
    have := h5 j hj
    rw [List.getElem?_eq_getElem (by rw [h4]; exact hj), c7] at this
    obtain ⟨cs', hc, ho⟩ := Option.bind_eq_some_iff.1 this
    obtain ⟨o, rfl, hoa⟩ := trod_op ho
    exact ⟨o, cells_get hc, hoa⟩
end
end Go.Proofs.Ytaldjmhikebecaa
