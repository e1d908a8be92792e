/- From the rows' readings to the walks: a disk's call. -/
import Derived.Test.YtaldjmhikebecaaRowZ
import Derived.Deep.Grids
namespace Go.Proofs.Ytaldjmhikebecaa
open Go.ChangeShapes Go.WideShapes Go.ChangeAt Go.RowKit Go.Deep
set_option linter.unusedVariables false
set_option maxRecDepth 100000
/-- A call, as its cells hold it. -/
structure OpV where
  kd : Int
  i : Int
  n : Int
  BA : Option Addr
  bn : Nat
  bc : Nat
  b : List UInt8
  KA : Option Addr
  kn : Nat
  kc : Nat
  keep : List Bool
  torn : Int
  cut : Int
def OpV.cells (o : OpV) : List Value := [.int .i64 o.kd, .int .i64 o.i, .int .i64 o.n, .slice o.BA o.bn o.bc, .slice o.KA o.kn o.kc, .int .i64 o.torn, .int .i64 o.cut]
def I64 (x : Int) : Prop := -9223372036854775808 ≤ x ∧ x ≤ 9223372036854775807
structure OpAt (W : World) (o : OpV) : Prop where
  bs : Bs W o.BA o.bn o.bc o.b
  ks : Rd W 1 o.KA o.kn o.kc (o.keep.map Value.bool)
  kd : I64 o.kd
  i : I64 o.i
  n : I64 o.n
  torn : I64 o.torn
  cut : I64 o.cut
theorem OpAt.below {W W' : World} {o : OpV} (h : OpAt W o) (hb : Below W.heap.size W W') : OpAt W' o := { h with bs := h.bs.below hb, ks := h.ks.below hb }
section
variable {H : Type} {enc : TypeId × Value → H}
theorem wf_i64 {x : Int} (h : (Lit.int .i64 x).wf = true) : I64 x := by
  have : -9223372036854775808 ≤ x ∧ x ≤ 9223372036854775807 := by simpa [Lit.wf, IntKind.min, IntKind.max, IntKind.signed, IntKind.bits] using h
  exact this
theorem trod_bs {W : World} {base fuel : Nat} {held : Bool} {cs : List Value} {x : DataW H × List MemPlace} (hf : DataW.trod enc Try.prog W base (fun _ => true) held fuel 26 cs = some x) : ∃ A n c l, cs = [.slice A n c] ∧ Bs W A n c l := by
  have c1 : Try.prog.cellsOf 5 = 1 := by kernel_rfl
  rcases open_ints Try.underlying26 Try.underlying5 c1 hf with ⟨h1, _⟩ | ⟨a, len, cap, zs, h1, _, h2, h3, h4, h5, h6, h7⟩
  · exact ⟨none, 0, 0, [], h1, Rd.nil _ _ _ _ (by decide)⟩
  · have hzl : len ≤ zs.length := by rw [h4]; split <;> omega
    have hlen : ((zs.take len).map fun z => UInt8.ofNat z.toNat).length = len := by simp; omega
    refine ⟨some a, len, cap, (zs.take len).map fun z => UInt8.ofNat z.toNat, h1, ⟨by rw [bytes_length, hlen, Nat.mul_one], h2, h3, fun _ => ⟨a, rfl, fun j u hu => ?_⟩⟩⟩
    have hj : j < len := by
      have := (List.getElem?_eq_some_iff.1 hu).1
      rw [bytes_length, hlen] at this
      exact this
    rw [h6 j (by omega)]
    have hz : zs.getD j 0 = zs[j]'(by omega) := by simp [List.getD, List.getElem?_eq_getElem (show j < zs.length by omega)]
    have hw := h7 (zs[j]'(by omega)) (List.getElem_mem _)
    have hw' : 0 ≤ zs[j]'(by omega) ∧ zs[j]'(by omega) ≤ 255 := by simpa [Lit.wf, IntKind.min, IntKind.max, IntKind.signed, IntKind.bits] using hw
    simp only [bytes, List.map_map, List.getElem?_map, List.getElem?_take, if_pos hj, List.getElem?_eq_getElem (show j < zs.length by omega), Option.map_some, Option.some.injEq, Function.comp_apply, byt] at hu
    have hnat : (zs[j]'(by omega)).toNat < UInt8.size := by have := hw'.2; simp only [UInt8.size]; omega
    rw [hz, ← hu, UInt8.toNat_ofNat_of_lt' hnat, Int.toNat_of_nonneg hw'.1]
theorem trod_bools {W : World} {base fuel : Nat} {held : Bool} {cs : List Value} {x : DataW H × List MemPlace} (hf : DataW.trod enc Try.prog W base (fun _ => true) held fuel 42 cs = some x) : ∃ A n c l, cs = [.slice A n c] ∧ Rd W 1 A n c ((l : List Bool).map Value.bool) := by
  have c1 : Try.prog.cellsOf 4 = 1 := by kernel_rfl
  rcases open_bools Try.underlying42 Try.underlying4 c1 hf with ⟨h1, _⟩ | ⟨a, len, cap, B, h1, _, h2, h3, _, h6⟩
  · exact ⟨none, 0, 0, [], h1, Rd.nil _ _ _ _ (by decide)⟩
  · refine ⟨some a, len, cap, (List.range len).map B, h1, ⟨by simp, h2, h3, fun _ => ⟨a, rfl, fun j u hu => ?_⟩⟩⟩
    have hj : j < len := by
      have := (List.getElem?_eq_some_iff.1 hu).1
      simpa using this
    rw [h6 j (by omega)]
    simp only [List.map_map, List.getElem?_map, List.getElem?_range hj, Option.map_some, Option.some.injEq, Function.comp_apply] at hu
    rw [← hu]
theorem trod_op {W : World} {base fuel : Nat} {held : Bool} {cs : List Value} {x : DataW H × List MemPlace} (hf : DataW.trod enc Try.prog W base (fun _ => true) held fuel 46 cs = some x) : ∃ o : OpV, cs = o.cells ∧ OpAt W o := by
  have c7 : Try.prog.cellsOf 46 = 7 := by kernel_rfl
  have c3 : Try.prog.cellsOf 44 = 3 := by kernel_rfl
  have ci : Try.prog.cellsOf 3 = 1 := by kernel_rfl
  have cb : Try.prog.cellsOf 26 = 1 := by kernel_rfl
  have ck : Try.prog.cellsOf 42 = 1 := by kernel_rfl
  obtain ⟨xs, n, _, _, hcl, hlen, hfs⟩ := DataW.trod_struct Try.underlying46 hf
  rw [c7] at hcl
  match cs, hcl with
  | [x0, x1, x2, x3, x4, x5, x6], _ =>
  have hl5 : xs.length = 5 := hlen
  have get : ∀ i, i < 5 → ∃ y, xs[i]? = some y := fun i hi => ⟨_, List.getElem?_eq_getElem (by omega)⟩
  obtain ⟨y0, e0⟩ := get 0 (by omega)
  obtain ⟨y1, e1⟩ := get 1 (by omega)
  obtain ⟨y2, e2⟩ := get 2 (by omega)
  obtain ⟨y3, e3⟩ := get 3 (by omega)
  obtain ⟨y4, e4⟩ := get 4 (by omega)
  obtain ⟨a0, z0, _, w0⟩ := DataW.trod_int Try.underlying3 ((hfs 0 _ rfl).trans e0)
  obtain ⟨a1, z1, _, w1⟩ := DataW.trod_int Try.underlying3 ((hfs 1 _ rfl).trans e1)
  obtain ⟨a2, z2, _, w2⟩ := DataW.trod_int Try.underlying3 ((hfs 2 _ rfl).trans e2)
  obtain ⟨BA, bn, bc, b, z3, hB⟩ := trod_bs ((hfs 3 _ rfl).trans e3)
  obtain ⟨xs2, n2, _, _, _, hlen2, hfs2⟩ := DataW.trod_struct Try.underlying44 ((hfs 4 _ rfl).trans e4)
  have hl3 : xs2.length = 3 := hlen2
  have get2 : ∀ i, i < 3 → ∃ y, xs2[i]? = some y := fun i hi => ⟨_, List.getElem?_eq_getElem (by omega)⟩
  obtain ⟨v0, f0⟩ := get2 0 (by omega)
  obtain ⟨v1, f1⟩ := get2 1 (by omega)
  obtain ⟨v2, f2⟩ := get2 2 (by omega)
  obtain ⟨KA, kn, kc, keep, z4, hK⟩ := trod_bools ((hfs2 0 _ rfl).trans f0)
  obtain ⟨a5, z5, _, w5⟩ := DataW.trod_int Try.underlying3 ((hfs2 1 _ rfl).trans f1)
  obtain ⟨a6, z6, _, w6⟩ := DataW.trod_int Try.underlying3 ((hfs2 2 _ rfl).trans f2)
  simp [ci, cb, ck, c3] at z0 z1 z2 z3 z4 z5 z6
  subst z0 z1 z2 z3 z4 z5 z6
  exact ⟨⟨a0, a1, a2, BA, bn, bc, b, KA, kn, kc, keep, a5, a6⟩, rfl, ⟨hB, hK, wf_i64 w0, wf_i64 w1, wf_i64 w2, wf_i64 w5, wf_i64 w6⟩⟩
end
end Go.Proofs.Ytaldjmhikebecaa
