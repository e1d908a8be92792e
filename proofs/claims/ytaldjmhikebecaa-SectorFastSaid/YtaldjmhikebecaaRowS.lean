/- From the rows' readings to the walks: rows of calls and a crash, as a law's parameters. -/
import Derived.Test.YtaldjmhikebecaaRowZ
import Derived.Test.YtaldjmhikebecaaOps
namespace Go.Proofs.Ytaldjmhikebecaa
open Go.ChangeShapes Go.WideShapes Go.ChangeAt Go.RowKit Go.Deep
set_option linter.unusedVariables false
set_option maxRecDepth 100000
section
variable {H : Type} {enc : TypeId × Value → H} {W : World} {b base : Nat} {held : Bool} {v : Value} {d : DataW H} {p : List MemPlace}
theorem open_ops (hv : Value.okWide Try.prog W .any b 36 v) (h : DataW.Trod enc Try.prog W base (fun _ => true) held 36 v d p) : ∃ A n c, v = .slice A n c ∧ OpsAt W A n c := by
  obtain ⟨A, n, c, rfl⟩ := okWide_slice Try.underlying36 hv
  obtain ⟨fuel, hf⟩ := h
  obtain ⟨A', n', c', he, ho⟩ := trod_ops hf
  simp [Value.cells] at he
  obtain ⟨rfl, rfl, rfl⟩ := he
  exact ⟨A, n, c, rfl, ho⟩
theorem open_crash (hv : Value.okWide Try.prog W .any b 44 v) (h : DataW.Trod enc Try.prog W base (fun _ => true) held 44 v d p) : ∃ A n c keep torn cut, v = .agg #[.slice A n c, .int .i64 torn, .int .i64 cut] ∧ Rd W 1 A n c ((keep : List Bool).map Value.bool) ∧ I64 torn ∧ I64 cut := by
  obtain ⟨cs, rfl, _⟩ := okWide_struct Try.underlying44 hv
  obtain ⟨fuel, hf⟩ := h
  have ck : Try.prog.cellsOf 42 = 1 := by kernel_rfl
  have ci : Try.prog.cellsOf 3 = 1 := by kernel_rfl
  have c3 : Try.prog.cellsOf 44 = 3 := by kernel_rfl
  obtain ⟨xs2, n2, _, _, hcl, hlen2, hfs2⟩ := DataW.trod_struct Try.underlying44 hf
  rw [c3] at hcl
  have hcs : (Value.agg cs).cells.toList = cs.toList := by simp [Value.cells]
  rw [hcs] at hcl hfs2
  match hm : cs.toList, hcl with
  | [x0, x1, x2], _ =>
  rw [hm] at hfs2
  have hl3 : xs2.length = 3 := hlen2
  have get2 : ∀ i, i < 3 → ∃ y, xs2[i]? = some y := fun i hi => ⟨_, List.getElem?_eq_getElem (by omega)⟩
  obtain ⟨v0, f0⟩ := get2 0 (by omega)
  obtain ⟨v1, f1⟩ := get2 1 (by omega)
  obtain ⟨v2, f2⟩ := get2 2 (by omega)
  obtain ⟨KA, kn, kc, keep, z4, hK⟩ := trod_bools ((hfs2 0 _ rfl).trans f0)
  obtain ⟨a5, z5, _, w5⟩ := DataW.trod_int Try.underlying3 ((hfs2 1 _ rfl).trans f1)
  obtain ⟨a6, z6, _, w6⟩ := DataW.trod_int Try.underlying3 ((hfs2 2 _ rfl).trans f2)
  simp [ci, ck, c3] at z4 z5 z6
  subst z4 z5 z6
  have : cs = #[.slice KA kn kc, .int .i64 a5, .int .i64 a6] := by cases cs; simp_all
  exact ⟨KA, kn, kc, keep, a5, a6, by rw [this], hK, wf_i64 w5, wf_i64 w6⟩
end
end Go.Proofs.Ytaldjmhikebecaa
