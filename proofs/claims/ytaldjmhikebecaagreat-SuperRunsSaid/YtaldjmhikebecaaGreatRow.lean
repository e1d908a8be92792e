/- From the rows' readings to the walks: a superblock by value. -/
import Derived.Test.YtaldjmhikebecaaGreatSup
import Derived.Test.YtaldjmhikebecaaGreatRowZ
namespace Go.Proofs.YtaldjmhikebecaaGreat
open Go.ChangeShapes Go.WideShapes Go.ChangeAt Go.RowKit
set_option linter.unusedVariables false
set_option maxRecDepth 100000
section
variable {H : Type} {enc : TypeId × Value → H}
theorem open_sup {W : World} {b base : Nat} {sp : Nat → Bool} {held : Bool} {v : Value} {d : DataW H} {p : List MemPlace} (hv : Value.okWide Tryz.prog W .any b 30 v) (h : DataW.Trod enc Tryz.prog W base sp held 30 v d p) : ∃ s : Sup, v = .agg s.cells ∧ s.fit := by
  obtain ⟨cs, rfl, hsz⟩ := okWide_struct Tryz.underlying30 hv
  have c9 : Tryz.prog.cellsOf 30 = 9 := by kernel_rfl
  have ci : Tryz.prog.cellsOf 3 = 1 := by kernel_rfl
  have cu : Tryz.prog.cellsOf 27 = 1 := by kernel_rfl
  have cw : Tryz.prog.cellsOf 28 = 1 := by kernel_rfl
  rw [c9] at hsz
  obtain ⟨l⟩ := cs
  match l, hsz with
  | [x0, x1, x2, x3, x4, x5, x6, x7, x8], _ =>
  obtain ⟨fuel, hf⟩ := h
  obtain ⟨xs, n, _, _, _, hlen, hfs⟩ := DataW.trod_struct Tryz.underlying30 hf
  have hl9 : xs.length = 9 := hlen
  have get : ∀ i, i < 9 → ∃ y, xs[i]? = some y := fun i hi => ⟨_, List.getElem?_eq_getElem (by omega)⟩
  obtain ⟨y0, e0⟩ := get 0 (by omega)
  obtain ⟨y1, e1⟩ := get 1 (by omega)
  obtain ⟨y2, e2⟩ := get 2 (by omega)
  obtain ⟨y3, e3⟩ := get 3 (by omega)
  obtain ⟨y4, e4⟩ := get 4 (by omega)
  obtain ⟨y5, e5⟩ := get 5 (by omega)
  obtain ⟨y6, e6⟩ := get 6 (by omega)
  obtain ⟨y7, e7⟩ := get 7 (by omega)
  obtain ⟨y8, e8⟩ := get 8 (by omega)
  obtain ⟨a0, z0, _, w0⟩ := DataW.trod_int Tryz.underlying27 ((hfs 0 _ rfl).trans e0)
  obtain ⟨a1, z1, _, w1⟩ := DataW.trod_int Tryz.underlying3 ((hfs 1 _ rfl).trans e1)
  obtain ⟨a2, z2, _, w2⟩ := DataW.trod_int Tryz.underlying3 ((hfs 2 _ rfl).trans e2)
  obtain ⟨a3, z3, _, w3⟩ := DataW.trod_int Tryz.underlying3 ((hfs 3 _ rfl).trans e3)
  obtain ⟨a4, z4, _, w4⟩ := DataW.trod_int Tryz.underlying3 ((hfs 4 _ rfl).trans e4)
  obtain ⟨a5, z5, _, w5⟩ := DataW.trod_int Tryz.underlying3 ((hfs 5 _ rfl).trans e5)
  obtain ⟨a6, z6, _, w6⟩ := DataW.trod_int Tryz.underlying3 ((hfs 6 _ rfl).trans e6)
  obtain ⟨a7, z7, _, w7⟩ := DataW.trod_int Tryz.underlying3 ((hfs 7 _ rfl).trans e7)
  obtain ⟨a8, z8, _, w8⟩ := DataW.trod_int Tryz.underlying28 ((hfs 8 _ rfl).trans e8)
  simp [Value.cells, ci, cu, cw] at z0 z1 z2 z3 z4 z5 z6 z7 z8
  subst z0 z1 z2 z3 z4 z5 z6 z7 z8
  have k0 : 0 ≤ a0 ∧ a0 ≤ 18446744073709551615 := by simpa [Lit.wf, IntKind.min, IntKind.max, IntKind.signed, IntKind.bits] using w0
  have k8 : 0 ≤ a8 ∧ a8 ≤ 4294967295 := by simpa [Lit.wf, IntKind.min, IntKind.max, IntKind.signed, IntKind.bits] using w8
  obtain ⟨n0, rfl⟩ := Int.eq_ofNat_of_zero_le k0.1
  obtain ⟨n8, rfl⟩ := Int.eq_ofNat_of_zero_le k8.1
  exact ⟨⟨n0, a1, a2, a3, a4, a5, a6, a7, n8⟩, rfl, by constructor <;> (simp only; omega)⟩
end
end Go.Proofs.YtaldjmhikebecaaGreat
