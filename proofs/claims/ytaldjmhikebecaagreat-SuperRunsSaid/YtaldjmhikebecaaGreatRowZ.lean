/- From the rows' readings to the walks: bytes; and back. -/
import Derived.Test.YtaldjmhikebecaaGreatLib
import Derived.Test.YtaldjmhikebecaaGreatRows
import Derived.WalkKit
import Derived.ProofKit
import Derived.OpenShut
import Derived.SizedLaws
import Derived.Carry
import Derived.ChangeSlices
import Derived.Deep.Grids
namespace Go.Proofs.YtaldjmhikebecaaGreat
open Go.ChangeShapes Go.WideShapes Go.ChangeAt Go.RowKit
set_option linter.unusedVariables false
set_option maxRecDepth 100000
section
variable {H : Type} {enc : TypeId × Value → H}
theorem own_knob : ownKnob Tryz.prog.godebug = none := by kernel_rfl
theorem laid_out : laidOutB Tryz.prog = true := by kernel_rfl
theorem open_bs {W : World} {b base : Nat} {sp : Nat → Bool} {held : Bool} {v : Value} {d : DataW H} {p : List MemPlace} (hv : Value.okWide Tryz.prog W .any b 51 v) (h : DataW.Trod enc Tryz.prog W base sp held 51 v d p) : ∃ A n c l, v = .slice A n c ∧ Bs W A n c l ∧ (n = 0 ∨ ∃ el spr, d = .slice el spr ∧ el.length = n) ∧ (∀ ad, A = some ad → 0 < n → ad.block < W.heap.size) := by
  obtain ⟨A, n, c, rfl⟩ := okWide_slice Tryz.underlying51 hv
  obtain ⟨fuel, hf⟩ := h
  have c1 : Tryz.prog.cellsOf 5 = 1 := by kernel_rfl
  rcases open_ints Tryz.underlying51 Tryz.underlying5 c1 hf with ⟨h1, _⟩ | ⟨a, len, cap, zs, h1, _, h2, h3, h4, h5, h6, h7⟩
  · simp [Value.cells] at h1
    obtain ⟨rfl, rfl, rfl⟩ := h1
    exact ⟨none, 0, 0, [], rfl, Rd.nil _ _ _ _ (by decide), .inl rfl, fun ad e => by cases e⟩
  · simp [Value.cells] at h1
    obtain ⟨rfl, rfl, rfl⟩ := h1
    simp only [Prod.mk.injEq] at h5
    have hzl : n ≤ zs.length := by rw [h4]; split <;> omega
    have hlen : ((zs.take n).map fun z => UInt8.ofNat z.toNat).length = n := by simp; omega
    refine ⟨some a, n, c, (zs.take n).map fun z => UInt8.ofNat z.toNat, rfl, ⟨by rw [bytes_length, hlen, Nat.mul_one], h2, h3, fun _ => ⟨a, rfl, fun j u hu => ?_⟩⟩, .inr ⟨_, _, h5.1, by simp [lits]; omega⟩, ?_⟩
    · have hj : j < n := by
        have := (List.getElem?_eq_some_iff.1 hu).1
        rw [bytes_length, hlen] at this
        exact this
      rw [h6 j (by omega)]
      have hz : zs.getD j 0 = zs[j]'(by omega) := by simp [List.getD, List.getElem?_eq_getElem (show j < zs.length by omega)]
      have hw := h7 (zs[j]'(by omega)) (List.getElem_mem _)
      have hw' : 0 ≤ zs[j]'(by omega) ∧ zs[j]'(by omega) ≤ 255 := by simpa [Lit.wf, IntKind.min, IntKind.max, IntKind.signed, IntKind.bits] using hw
      simp only [bytes, List.map_map, List.getElem?_map, List.getElem?_take, if_pos hj, List.getElem?_eq_getElem (show j < zs.length by omega), Option.map_some, Option.some.injEq, Function.comp_apply, byt] at hu
      have hnat : (zs[j]'(by omega)).toNat < UInt8.size := by have := hw'.2; simp only [UInt8.size]; omega
      rw [hz, ← hu, UInt8.toNat_ofNat_of_lt' hnat, Int.toNat_of_nonneg hw'.1]
    · intro ad e h0
      cases e
      have := h6 0 (by omega)
      have := World.block_lt_of_cell? W _ this
      rwa [block_add] at this
theorem trodAll_below {W W' : World} (hb : Below W.heap.size W W') : ∀ {ts : List TypeId} {vs : List Value} {ds : List (DataW H)} {ps : List MemPlace}, (∀ t ∈ ts, Tryz.prog.readableRec t = true ∧ t < Tryz.prog.types.size) → DataW.TrodAll enc Tryz.prog W 0 (fun _ => true) true ts vs ds ps → (∀ x ∈ ps, x.block < W.heap.size) →
    DataW.TrodAll enc Tryz.prog W' 0 (fun b => decide (b < W.heap.size)) true ts vs ds ps
  | [], [], [], _, _, h, _ => h
  | [], _ :: _, _, _, _, h, _ => h.elim
  | [], [], _ :: _, _, _, h, _ => h.elim
  | _ :: _, [], _, _, _, h, _ => h.elim
  | _ :: _, _ :: _, [], _, _, h, _ => h.elim
  | t :: ts, v :: vs, d :: ds, ps, hr, h, hlt => by
    obtain ⟨p, q, h1, h2, rfl⟩ := h
    have ht := hr t List.mem_cons_self
    exact ⟨p, q, Below.trod laid_out ht.1 ht.2 h1 hb (fun x hx => hlt x (List.mem_append_left _ hx)), trodAll_below hb (fun u hu => hr u (List.mem_cons_of_mem _ hu)) h2 (fun x hx => hlt x (List.mem_append_right _ hx)), rfl⟩
/-- What a law that answered true, and touched nothing of what was there, leaves. -/
theorem post_true {f : Func} {s : ChangeSpec} {W W' : World} {args : Array Value} {ds gs : List (DataW H)} {before : List MemPlace} (hW : DataW.Whole enc Tryz.prog f.params.toList s.vars false W args.toList ds gs before) (hb : Below W.heap.size W W')
    (hv : s.vars = []) (hr : (s.fn H (ds ++ gs)).results = [.lit (.bool true)]) (ha : (s.fn H (ds ++ gs)).args = ds) (hvs : (s.fn H (ds ++ gs)).vars = []) (hrt : f.resultTypes = #[4]) (hread : ∀ t ∈ f.params.toList, Tryz.prog.readableRec t = true ∧ t < Tryz.prog.types.size) :
    s.post enc Tryz.prog f false true false false W args (.bool true) W' := by
  have hlt := hW.lt
  obtain ⟨p, q, h1, h2, rfl, h3, h4⟩ := hW
  refine ⟨ds, gs, p ++ q, [], p, [], ⟨p, q, h1, h2, rfl, h3, h4⟩, ?_, ?_, ?_, hb.frame _, fun h => by cases h⟩
  · rw [hr, hrt]
    exact trodAll_cons_mk (shut_bool Tryz.underlying4 _) trodAll_mk0
  · rw [ha]
    exact trodAll_below hb hread h1 (fun x hx => hlt x (List.mem_append_left _ hx))
  · rw [hvs, hv]
    rfl
end
end Go.Proofs.YtaldjmhikebecaaGreat
namespace Go.Proofs.YtaldjmhikebecaaGreat
open Go.ChangeShapes Go.WideShapes Go.ChangeAt Go.RowKit Go.Deep
set_option linter.unusedVariables false
set_option maxRecDepth 100000
section
variable {H : Type} {enc : TypeId × Value → H}
theorem wf_i64 {x : Int} (h : (Lit.int .i64 x).wf = true) : I64 x := by
  have : -9223372036854775808 ≤ x ∧ x ≤ 9223372036854775807 := by simpa [Lit.wf, IntKind.min, IntKind.max, IntKind.signed, IntKind.bits] using h
  exact this
theorem trod_bs {W : World} {base fuel : Nat} {held : Bool} {cs : List Value} {x : DataW H × List MemPlace} (hf : DataW.trod enc Tryz.prog W base (fun _ => true) held fuel 51 cs = some x) : ∃ A n c l, cs = [.slice A n c] ∧ Bs W A n c l := by
  have c1 : Tryz.prog.cellsOf 5 = 1 := by kernel_rfl
  rcases open_ints Tryz.underlying51 Tryz.underlying5 c1 hf with ⟨h1, _⟩ | ⟨a, len, cap, zs, h1, _, h2, h3, h4, h5, h6, h7⟩
  · exact ⟨none, 0, 0, [], h1, Rd.nil _ _ _ _ (by decide)⟩
  · have hzl : len ≤ zs.length := by rw [h4]; split <;> omega
    have hlen : ((zs.take len).map fun z => UInt8.ofNat z.toNat).length = len := by simp; omega
    refine ⟨some a, len, cap, (zs.take len).map fun z => UInt8.ofNat z.toNat, h1, ⟨by rw [bytes_length, hlen, Nat.mul_one], h2, h3, fun _ => ⟨a, rfl, fun j u hu => ?_⟩⟩⟩
    have hj : j < len := by
      have := (List.getElem?_eq_some_iff.1 hu).1
      rw [bytes_length, hlen] at this
      exact this
    rw [h6 j (by omega)]
    have hz : zs.getD j 0 = zs[j]'(by omega) := by simp [List.getD, List.getElem?_eq_getElem (show j < zs.length by omega)]
    have hw := h7 (zs[j]'(by omega)) (List.getElem_mem _)
    have hw' : 0 ≤ zs[j]'(by omega) ∧ zs[j]'(by omega) ≤ 255 := by simpa [Lit.wf, IntKind.min, IntKind.max, IntKind.signed, IntKind.bits] using hw
    simp only [bytes, List.map_map, List.getElem?_map, List.getElem?_take, if_pos hj, List.getElem?_eq_getElem (show j < zs.length by omega), Option.map_some, Option.some.injEq, Function.comp_apply, byt] at hu
    have hnat : (zs[j]'(by omega)).toNat < UInt8.size := by have := hw'.2; simp only [UInt8.size]; omega
    rw [hz, ← hu, UInt8.toNat_ofNat_of_lt' hnat, Int.toNat_of_nonneg hw'.1]
theorem trod_bools {W : World} {base fuel : Nat} {held : Bool} {cs : List Value} {x : DataW H × List MemPlace} (hf : DataW.trod enc Tryz.prog W base (fun _ => true) held fuel 31 cs = some x) : ∃ A n c l, cs = [.slice A n c] ∧ Rd W 1 A n c ((l : List Bool).map Value.bool) := by
  have c1 : Tryz.prog.cellsOf 4 = 1 := by kernel_rfl
  rcases open_bools Tryz.underlying31 Tryz.underlying4 c1 hf with ⟨h1, _⟩ | ⟨a, len, cap, B, h1, _, h2, h3, _, h6⟩
  · exact ⟨none, 0, 0, [], h1, Rd.nil _ _ _ _ (by decide)⟩
  · refine ⟨some a, len, cap, (List.range len).map B, h1, ⟨by simp, h2, h3, fun _ => ⟨a, rfl, fun j u hu => ?_⟩⟩⟩
    have hj : j < len := by
      have := (List.getElem?_eq_some_iff.1 hu).1
      simpa using this
    rw [h6 j (by omega)]
    simp only [List.map_map, List.getElem?_map, List.getElem?_range hj, Option.map_some, Option.some.injEq, Function.comp_apply] at hu
    rw [← hu]
end
section
variable {H : Type} {enc : TypeId × Value → H} {W : World} {b base : Nat} {held : Bool} {v : Value} {d : DataW H} {p : List MemPlace}
theorem open_crash (hv : Value.okWide Tryz.prog W .any b 33 v) (h : DataW.Trod enc Tryz.prog W base (fun _ => true) held 33 v d p) : ∃ A n c keep torn cut, v = .agg #[.slice A n c, .int .i64 torn, .int .i64 cut] ∧ Rd W 1 A n c ((keep : List Bool).map Value.bool) ∧ I64 torn ∧ I64 cut := by
  obtain ⟨cs, rfl, _⟩ := okWide_struct Tryz.underlying33 hv
  obtain ⟨fuel, hf⟩ := h
  have ck : Tryz.prog.cellsOf 31 = 1 := by kernel_rfl
  have ci : Tryz.prog.cellsOf 3 = 1 := by kernel_rfl
  have c3 : Tryz.prog.cellsOf 33 = 3 := by kernel_rfl
  obtain ⟨xs2, n2, _, _, hcl, hlen2, hfs2⟩ := DataW.trod_struct Tryz.underlying33 hf
  rw [c3] at hcl
  have hcs : (Value.agg cs).cells.toList = cs.toList := by simp [Value.cells]
  rw [hcs] at hcl hfs2
  match hm : cs.toList, hcl with
  | [x0, x1, x2], _ =>
  rw [hm] at hfs2
  have hl3 : xs2.length = 3 := hlen2
  have get2 : ∀ i, i < 3 → ∃ y, xs2[i]? = some y := fun i hi => ⟨_, List.getElem?_eq_getElem (by omega)⟩
  obtain ⟨v0, f0⟩ := get2 0 (by omega)
  obtain ⟨v1, f1⟩ := get2 1 (by omega)
  obtain ⟨v2, f2⟩ := get2 2 (by omega)
  obtain ⟨KA, kn, kc, keep, z4, hK⟩ := trod_bools ((hfs2 0 _ rfl).trans f0)
  obtain ⟨a5, z5, _, w5⟩ := DataW.trod_int Tryz.underlying3 ((hfs2 1 _ rfl).trans f1)
  obtain ⟨a6, z6, _, w6⟩ := DataW.trod_int Tryz.underlying3 ((hfs2 2 _ rfl).trans f2)
  simp [ci, ck, c3] at z4 z5 z6
  subst z4 z5 z6
  have : cs = #[.slice KA kn kc, .int .i64 a5, .int .i64 a6] := by cases cs; simp_all
  exact ⟨KA, kn, kc, keep, a5, a6, by rw [this], hK, wf_i64 w5, wf_i64 w6⟩
end
end Go.Proofs.YtaldjmhikebecaaGreat
