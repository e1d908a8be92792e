/- SuperRuns holds: any saves, barriers, crashes, spoilt and bad sectors leave on any disk, what the document says, and the same is loaded; every input, no condition. -/
import Derived.Test.YtaldjmhikebecaaGreatNewB
import Derived.Test.YtaldjmhikebecaaGreatNew
import Derived.Test.YtaldjmhikebecaaGreatAwake
import Derived.Deep.CutRange
import Derived.Deep.RegionHeld3
import Derived.Test.YtaldjmhikebecaaGreatRLoad
import Derived.Test.YtaldjmhikebecaaGreatDuo
import Derived.Test.YtaldjmhikebecaaGreatRow
import Derived.Test.YtaldjmhikebecaaGreatRowZ
namespace Go.Proofs.YtaldjmhikebecaaGreat
open Go.ChangeShapes Go.WideShapes Go.ChangeAt Go.RowKit Go.Deep
set_option linter.unusedVariables false
set_option maxRecDepth 100000
/-- A call, as its cells hold it. -/
structure OpP where
  kd : Int
  s : Sup
  KA : Option Addr
  kn : Nat
  kc : Nat
  keep : List Bool
  torn : Int
  cut : Int
  i : Int
  BA : Option Addr
  bn : Nat
  bc : Nat
  b : List UInt8
def OpP.cells (o : OpP) : List Value := [.int .i64 o.kd, .int .u64 o.s.serial, .int .i64 o.s.epoch, .int .i64 o.s.view, .int .i64 o.s.normal, .int .i64 o.s.top, .int .i64 o.s.base, .int .i64 o.s.area, .int .i64 o.s.start, .int .u32 o.s.chain, .slice o.KA o.kn o.kc, .int .i64 o.torn, .int .i64 o.cut, .int .i64 o.i, .slice o.BA o.bn o.bc]
structure OpPAt (W : World) (o : OpP) : Prop where
  fit : o.s.fit
  bs : Bs W o.BA o.bn o.bc o.b
  ks : Rd W 1 o.KA o.kn o.kc (o.keep.map Value.bool)
  kd : I64 o.kd
  i : I64 o.i
  torn : I64 o.torn
  cut : I64 o.cut
theorem OpPAt.below {W W' : World} {o : OpP} (h : OpPAt W o) (hb : Below W.heap.size W W') : OpPAt W' o := { h with bs := h.bs.below hb, ks := h.ks.below hb }
theorem OpPAt.lt {w : World} {o : OpP} (h : OpPAt w o) : (0 < o.bn → ∀ ad, o.BA = some ad → ad.block < w.heap.size) ∧ (0 < o.kn → ∀ ad, o.KA = some ad → ad.block < w.heap.size) := by
  refine ⟨fun h0 ad e => ?_, fun h0 ad e => ?_⟩
  · obtain ⟨ad', e', hc⟩ := h.bs.at_ h0
    rw [e] at e'
    cases e'
    have := World.block_lt_of_cell? w _ hc
    rwa [block_add] at this
  · obtain ⟨ad', e', hc⟩ := h.ks.at_ h0
    rw [e] at e'
    cases e'
    have := World.block_lt_of_cell? w _ hc
    rwa [block_add] at this
/-- A row of calls in memory. -/
structure OpsPAt (W : World) (A : Option Addr) (n c : Nat) : Prop where
  le : n ≤ c
  max : c ≤ maxLen
  at_ : ∀ j, j < n → ∃ ad, A = some ad ∧ ∃ o : OpP, (∀ i v, o.cells[i]? = some v → W.cell? ((ad.add (j * 15)).add i) = some v) ∧ OpPAt W o
theorem OpsPAt.below {W W' : World} {A : Option Addr} {n c : Nat} (h : OpsPAt W A n c) (hb : Below W.heap.size W W') : OpsPAt W' A n c :=
  ⟨h.le, h.max, fun j hj => by
    obtain ⟨ad, e, o, h1, h2⟩ := h.at_ j hj
    exact ⟨ad, e, o, fun i v hv => cell_keep hb (h1 i v hv), h2.below hb⟩⟩
theorem cells_getP {W : World} {base : Nat} {ad : Addr} {n : Nat} {cs : List Value} (h : W.cells? base ad n = some cs) : ∀ i v, cs[i]? = some v → W.cell? (ad.add i) = some v := by
  obtain ⟨_, hl, hc⟩ := World.cells?_some h
  intro i v hv
  have hi : i < n := by
    have := (List.getElem?_eq_some_iff.1 hv).1
    omega
  rw [hc i hi]
  exact hv
theorem spot_noneP {w : World} {a : Addr} {v : Value} (h : w.cell? a = some v) : a = ⟨a.block, a.off, none⟩ := by
  obtain ⟨b, o, s⟩ := a
  cases s with
  | none => rfl
  | some x =>
    unfold World.cell? at h
    split at h
    · simp at h
    · cases h
section
variable {H : Type} {enc : TypeId × Value → H}
theorem trod_sup {W : World} {base fuel : Nat} {held : Bool} {cs : List Value} {x : DataW H × List MemPlace} (hf : DataW.trod enc Tryz.prog W base (fun _ => true) held fuel 30 cs = some x) : ∃ s : Sup, cs = s.cells.toList ∧ s.fit := by
  have c9 : Tryz.prog.cellsOf 30 = 9 := by kernel_rfl
  have ci : Tryz.prog.cellsOf 3 = 1 := by kernel_rfl
  have cu : Tryz.prog.cellsOf 27 = 1 := by kernel_rfl
  have cw : Tryz.prog.cellsOf 28 = 1 := by kernel_rfl
  obtain ⟨xs, n, _, _, hcl, hlen, hfs⟩ := DataW.trod_struct Tryz.underlying30 hf
  rw [c9] at hcl
  match cs, hcl with
  | [x0, x1, x2, x3, x4, x5, x6, x7, x8], _ =>
  have hl9 : xs.length = 9 := hlen
  have get : ∀ i, i < 9 → ∃ y, xs[i]? = some y := fun i hi => ⟨_, List.getElem?_eq_getElem (by omega)⟩
  obtain ⟨y0, e0⟩ := get 0 (by omega)
  obtain ⟨y1, e1⟩ := get 1 (by omega)
  obtain ⟨y2, e2⟩ := get 2 (by omega)
  obtain ⟨y3, e3⟩ := get 3 (by omega)
  obtain ⟨y4, e4⟩ := get 4 (by omega)
  obtain ⟨y5, e5⟩ := get 5 (by omega)
  obtain ⟨y6, e6⟩ := get 6 (by omega)
  obtain ⟨y7, e7⟩ := get 7 (by omega)
  obtain ⟨y8, e8⟩ := get 8 (by omega)
  obtain ⟨a0, z0, _, w0⟩ := DataW.trod_int Tryz.underlying27 ((hfs 0 _ rfl).trans e0)
  obtain ⟨a1, z1, _, w1⟩ := DataW.trod_int Tryz.underlying3 ((hfs 1 _ rfl).trans e1)
  obtain ⟨a2, z2, _, w2⟩ := DataW.trod_int Tryz.underlying3 ((hfs 2 _ rfl).trans e2)
  obtain ⟨a3, z3, _, w3⟩ := DataW.trod_int Tryz.underlying3 ((hfs 3 _ rfl).trans e3)
  obtain ⟨a4, z4, _, w4⟩ := DataW.trod_int Tryz.underlying3 ((hfs 4 _ rfl).trans e4)
  obtain ⟨a5, z5, _, w5⟩ := DataW.trod_int Tryz.underlying3 ((hfs 5 _ rfl).trans e5)
  obtain ⟨a6, z6, _, w6⟩ := DataW.trod_int Tryz.underlying3 ((hfs 6 _ rfl).trans e6)
  obtain ⟨a7, z7, _, w7⟩ := DataW.trod_int Tryz.underlying3 ((hfs 7 _ rfl).trans e7)
  obtain ⟨a8, z8, _, w8⟩ := DataW.trod_int Tryz.underlying28 ((hfs 8 _ rfl).trans e8)
  simp [ci, cu, cw] at z0 z1 z2 z3 z4 z5 z6 z7 z8
  subst z0 z1 z2 z3 z4 z5 z6 z7 z8
  have k0 : 0 ≤ a0 ∧ a0 ≤ 18446744073709551615 := by simpa [Lit.wf, IntKind.min, IntKind.max, IntKind.signed, IntKind.bits] using w0
  have k8 : 0 ≤ a8 ∧ a8 ≤ 4294967295 := by simpa [Lit.wf, IntKind.min, IntKind.max, IntKind.signed, IntKind.bits] using w8
  obtain ⟨n0, rfl⟩ := Int.eq_ofNat_of_zero_le k0.1
  obtain ⟨n8, rfl⟩ := Int.eq_ofNat_of_zero_le k8.1
  exact ⟨⟨n0, a1, a2, a3, a4, a5, a6, a7, n8⟩, rfl, by constructor <;> (simp only; omega)⟩
theorem trod_opP {W : World} {base fuel : Nat} {held : Bool} {cs : List Value} {x : DataW H × List MemPlace} (hf : DataW.trod enc Tryz.prog W base (fun _ => true) held fuel 53 cs = some x) : ∃ o : OpP, cs = o.cells ∧ OpPAt W o := by
  have c15 : Tryz.prog.cellsOf 53 = 15 := by kernel_rfl
  have c9 : Tryz.prog.cellsOf 30 = 9 := by kernel_rfl
  have c3 : Tryz.prog.cellsOf 33 = 3 := by kernel_rfl
  have ci : Tryz.prog.cellsOf 3 = 1 := by kernel_rfl
  have cb : Tryz.prog.cellsOf 51 = 1 := by kernel_rfl
  have ck : Tryz.prog.cellsOf 31 = 1 := by kernel_rfl
  obtain ⟨xs, n, _, _, hcl, hlen, hfs⟩ := DataW.trod_struct Tryz.underlying53 hf
  rw [c15] at hcl
  match cs, hcl with
  | [x0, x1, x2, x3, x4, x5, x6, x7, x8, x9, x10, x11, x12, x13, x14], _ =>
  have hl5 : xs.length = 5 := hlen
  have get : ∀ i, i < 5 → ∃ y, xs[i]? = some y := fun i hi => ⟨_, List.getElem?_eq_getElem (by omega)⟩
  obtain ⟨y0, e0⟩ := get 0 (by omega)
  obtain ⟨y1, e1⟩ := get 1 (by omega)
  obtain ⟨y2, e2⟩ := get 2 (by omega)
  obtain ⟨y3, e3⟩ := get 3 (by omega)
  obtain ⟨y4, e4⟩ := get 4 (by omega)
  obtain ⟨a0, z0, _, w0⟩ := DataW.trod_int Tryz.underlying3 ((hfs 0 _ rfl).trans e0)
  obtain ⟨s, z1, hs⟩ := trod_sup ((hfs 1 _ rfl).trans e1)
  obtain ⟨a3, z3, _, w3⟩ := DataW.trod_int Tryz.underlying3 ((hfs 3 _ rfl).trans e3)
  obtain ⟨BA, bn, bc, b, z4, hB⟩ := trod_bs ((hfs 4 _ rfl).trans e4)
  obtain ⟨xs2, n2, _, _, _, hlen2, hfs2⟩ := DataW.trod_struct Tryz.underlying33 ((hfs 2 _ rfl).trans e2)
  have hl3 : xs2.length = 3 := hlen2
  have get2 : ∀ i, i < 3 → ∃ y, xs2[i]? = some y := fun i hi => ⟨_, List.getElem?_eq_getElem (by omega)⟩
  obtain ⟨v0, f0⟩ := get2 0 (by omega)
  obtain ⟨v1, f1⟩ := get2 1 (by omega)
  obtain ⟨v2, f2⟩ := get2 2 (by omega)
  obtain ⟨KA, kn, kc, keep, z5, hK⟩ := trod_bools ((hfs2 0 _ rfl).trans f0)
  obtain ⟨a6, z6, _, w6⟩ := DataW.trod_int Tryz.underlying3 ((hfs2 1 _ rfl).trans f1)
  obtain ⟨a7, z7, _, w7⟩ := DataW.trod_int Tryz.underlying3 ((hfs2 2 _ rfl).trans f2)
  simp [ci, cb, ck, c3, c9, Sup.cells] at z0 z1 z3 z4 z5 z6 z7
  obtain ⟨rfl, rfl, rfl, rfl, rfl, rfl, rfl, rfl, rfl⟩ := z1
  subst z0 z3 z4 z5 z6 z7
  exact ⟨⟨a0, s, KA, kn, kc, keep, a6, a7, a3, BA, bn, bc, b⟩, rfl, ⟨hs, hB, hK, wf_i64 w0, wf_i64 w3, wf_i64 w6, wf_i64 w7⟩⟩
theorem trod_opsP {W : World} {base fuel : Nat} {held : Bool} {cs : List Value} {x : DataW H × List MemPlace} (hf : DataW.trod enc Tryz.prog W base (fun _ => true) held fuel 47 cs = some x) : ∃ A n c, cs = [.slice A n c] ∧ OpsPAt W A n c := by
  have c15 : Tryz.prog.cellsOf 53 = 15 := by kernel_rfl
  rcases DataW.trod_slice Tryz.underlying47 hf with ⟨h1, _⟩ | ⟨a, len, cap, elems, rest, n, _, h1, _, _, h2, h3, h4, h5, _⟩
  · exact ⟨none, 0, 0, h1, Nat.le_refl _, by decide, fun j hj => absurd hj (Nat.not_lt_zero j)⟩
  · refine ⟨some a, len, cap, h1, h2, h3, fun j hj => ⟨a, rfl, ?_⟩⟩
    have := h5 j hj
    rw [List.getElem?_eq_getElem (by rw [h4]; exact hj), c15] at this
    obtain ⟨cs', hc, ho⟩ := Option.bind_eq_some_iff.1 this
    obtain ⟨o, rfl, hoa⟩ := trod_opP ho
    exact ⟨o, cells_getP hc, hoa⟩
variable {W : World} {b base : Nat} {held : Bool} {v : Value} {d : DataW H} {p : List MemPlace}
theorem open_opsP (hv : Value.okWide Tryz.prog W .any b 47 v) (h : DataW.Trod enc Tryz.prog W base (fun _ => true) held 47 v d p) : ∃ A n c, v = .slice A n c ∧ OpsPAt W A n c := by
  obtain ⟨A, n, c, rfl⟩ := okWide_slice Tryz.underlying47 hv
  obtain ⟨fuel, hf⟩ := h
  obtain ⟨A', n', c', he, ho⟩ := trod_opsP hf
  simp [Value.cells] at he
  obtain ⟨rfl, rfl, rfl⟩ := he
  exact ⟨A, n, c, rfl, ho⟩
end
/-- A call's cells, where the walk looks for them. -/
theorem OpsPAt.op {w wr : World} {A : Option Addr} {n c j : Nat} (h : OpsPAt w A n c) (hj : j < n) (hb : Below w.heap.size w wr) : ∃ ad, A = some ad ∧ ∃ p q o, ad.add (j * 15) = ⟨p, q, none⟩ ∧ (∀ i v, o.cells.toArray[i]? = some v → wr.cell? ⟨p, q + i, none⟩ = some v) ∧ OpPAt w o := by
  obtain ⟨ad, e, o, h1, h2⟩ := h.at_ j hj
  have e0 := spot_noneP (h1 0 _ rfl)
  rw [show (ad.add (j * 15)).add 0 = ad.add (j * 15) from rfl] at e0
  refine ⟨ad, e, _, _, o, e0, fun i v hv => ?_, h2⟩
  have hv' : o.cells[i]? = some v := by simpa using hv
  have := cell_keep hb (h1 i v hv')
  rw [e0, Addr.add_lit] at this
  exact this
end Go.Proofs.YtaldjmhikebecaaGreat
namespace Go.Proofs.YtaldjmhikebecaaGreat
open Go Go.RowKit
set_option maxRecDepth 100000
set_option linter.unusedVariables false
attribute [local go_sem] Oper.semAt_some
section
variable {w w' : World} {d fb lb bb c : Nat} {k : Dsk} {X : Nat → Prop}
theorem Save_bad (h : OnDisk X w d fb lb bb c k) (s : Sup) (hbad : ¬ s.ok) :
    Calls Tryz.prog 12 #[.pointer (some ⟨d, 0, none⟩), .agg s.cells] w fun e w' => e = .returned (.int .i64 90) ∧ Below w.heap.size w w' := by
  have HMADE := Lib.hid (fun (W : World) (hb : Below w.heap.size w W) => smade_ok (h.below hb))
  have HENC := Lib.hid (fun (W : World) => Encode_bad s W hbad)
  have b1 : Below w.heap.size w (w.alloc (.cells s.cells 30)) := (Below.refl _ w).alloc (Nat.le_refl _) _
  have HB1 := Lib.hid b1
  have HX := Lib.hid (blk_new w (.cells s.cells 30))
  have hcells := Lib.hid (show s.cells = #[.int .u64 s.serial, .int .i64 s.epoch, .int .i64 s.view, .int .i64 s.normal, .int .i64 s.top, .int .i64 s.base, .int .i64 s.area, .int .i64 s.start, .int .u32 s.chain] from rfl)
  rw [hcells.out] at HB1 HX HENC ⊢
  clear b1 h hbad
  go_enter Tryz.func12, Tryz.ntmps12
  go_wp2_with (first
    | (go_at_call 34; go_must (refine (HMADE.out _ HB1.out).mono ?_; rintro e w1 ⟨rfl, hb⟩; have HB2 := Lib.hid (HB1.out.trans (hb.mono HB1.out.size)); have HX2 := Lib.hid (blk_below HX.out hb); clear hb))
    | (refine wpList_load_blk rfl 30 _ rfl (b := w.heap.size) rfl _ rfl rfl (fun _ => by simp [go_sem, isAgg]) HX2.out ?_)
    | (go_at_call 35; go_must (refine (HENC.out _).mono ?_; rintro e w2 ⟨rfl, hb⟩; have HB3 := Lib.hid (HB2.out.trans (hb.mono HB2.out.size)); clear hb)))
  go_ret
  exact ⟨rfl, HB3.out⟩
theorem Save_fits (h : OnDisk X w d fb lb bb c k) (s : Sup) (hf : s.fit) (hok : s.ok) (hn : ¬ (2 ≤ k.n ∧ 72 ≤ k.size)) :
    Calls Tryz.prog 12 #[.pointer (some ⟨d, 0, none⟩), .agg s.cells] w fun e w' => e = .returned (.int .i64 80) ∧ Below w.heap.size w w' := by
  have HMADE := Lib.hid (fun (W : World) (hb : Below w.heap.size w W) => smade_ok (h.below hb))
  have HFITS := Lib.hid (fun (W : World) (hb : Below w.heap.size w W) => by have := sfits_any (h.below hb); rw [if_neg hn] at this; exact this)
  have HENC := Lib.hid (fun (W : World) => Encode_ok s W hf hok)
  have b1 : Below w.heap.size w (w.alloc (.cells s.cells 30)) := (Below.refl _ w).alloc (Nat.le_refl _) _
  have HB1 := Lib.hid b1
  have HX := Lib.hid (blk_new w (.cells s.cells 30))
  have hcells := Lib.hid (show s.cells = #[.int .u64 s.serial, .int .i64 s.epoch, .int .i64 s.view, .int .i64 s.normal, .int .i64 s.top, .int .i64 s.base, .int .i64 s.area, .int .i64 s.start, .int .u32 s.chain] from rfl)
  rw [hcells.out] at HB1 HX HENC ⊢
  clear b1 h hf hok hn
  go_enter Tryz.func12, Tryz.ntmps12
  go_wp2_with (first
    | (go_at_call 34; go_must (refine (HMADE.out _ HB1.out).mono ?_; rintro e w1 ⟨rfl, hb⟩; have HB2 := Lib.hid (HB1.out.trans (hb.mono HB1.out.size)); have HX2 := Lib.hid (blk_below HX.out hb); clear hb))
    | (refine wpList_load_blk rfl 30 _ rfl (b := w.heap.size) rfl _ rfl rfl (fun _ => by simp [go_sem, isAgg]) HX2.out ?_)
    | (go_at_call 35; go_must (refine (HENC.out _).mono ?_; rintro e w2 ⟨A2, c2, rfl, ho, hb⟩; have HB3 := Lib.hid (HB2.out.trans (hb.mono HB2.out.size)); clear ho hb))
    | (go_at_call 36; go_must (refine (HFITS.out _ HB3.out).mono ?_; rintro e w3 ⟨rfl, hb⟩; have HB4 := Lib.hid (HB3.out.trans (hb.mono HB3.out.size)); clear hb)))
  go_ret
  exact ⟨rfl, HB4.out⟩
set_option maxHeartbeats 2000000 in
theorem Save_power (h : OnDisk X w d fb lb bb c k) (s : Sup) (hf : s.fit) (hok : s.ok) (hn : 2 ≤ k.n) (hs : 72 ≤ k.size) (hon : ¬ k.on) :
    Calls Tryz.prog 12 #[.pointer (some ⟨d, 0, none⟩), .agg s.cells] w fun e w' => e = .returned (.int .i64 82) ∧ Below w.heap.size w w' := by
  have hs2 := h.s2
  have hpl := pad_len k.size hs
  have hser : s.serial < 18446744073709551616 := hf.1
  have hm2 : s.serial % 2 < 2 := Nat.mod_lt _ (by omega)
  have HMADE := Lib.hid (fun (W : World) (hb : Below w.heap.size w W) => smade_ok (h.below hb))
  have HFITS := Lib.hid (fun (W : World) (hb : Below w.heap.size w W) => by have := sfits_any (h.below hb); rw [if_pos ⟨hn, hs⟩] at this; exact this)
  have HSHAPE := Lib.hid (fun (W : World) (hb : Below w.heap.size w W) => Shape_ok (h.below hb))
  have HENC := Lib.hid (fun (W : World) => Encode_ok s W hf hok)
  have HPAD := Lib.hid (fun (A : Option Addr) (c' : Nat) (W : World) (hb : Bs W A 72 c' (supB s)) => by have := Pad_ok A 72 c' (supB s) W hb k.size (by omega) (by omega) (by omega); rw [hpl] at this; exact this)
  have HWR := Lib.hid (fun (A : Option Addr) (c' : Nat) (W : World) (hb : Below w.heap.size w W) => by
    have := Write_power (h.below hb) A k.size c' 1 (s.serial % 2) (by omega) (by omega) (by omega) hon
    rw [show ((s.serial % 2 : Nat) : Int) = (s.serial : Int) % 2 from rfl] at this
    exact this)
  have b1 : Below w.heap.size w (w.alloc (.cells s.cells 30)) := (Below.refl _ w).alloc (Nat.le_refl _) _
  have HB1 := Lib.hid b1
  have HX := Lib.hid (blk_new w (.cells s.cells 30))
  have hcells := Lib.hid (show s.cells = #[.int .u64 s.serial, .int .i64 s.epoch, .int .i64 s.view, .int .i64 s.normal, .int .i64 s.top, .int .i64 s.base, .int .i64 s.area, .int .i64 s.start, .int .u32 s.chain] from rfl)
  rw [hcells.out] at HB1 HX HENC ⊢
  clear b1 h hf hok hn hs hon
  clear hpl
  go_enter Tryz.func12, Tryz.ntmps12
  go_wp2_with (first
    | (go_at_call 34; go_must (refine (HMADE.out _ HB1.out).mono ?_; rintro e w1 ⟨rfl, hb⟩; have HB2 := Lib.hid (HB1.out.trans (hb.mono HB1.out.size)); have HX2 := Lib.hid (blk_below HX.out hb); clear hb))
    | (refine wpList_load_blk rfl 30 _ rfl (b := w.heap.size) rfl _ rfl rfl (fun _ => by simp [go_sem, isAgg]) HX2.out ?_)
    | (go_at_call 35; go_must (refine (HENC.out _).mono ?_; rintro e w2 ⟨A2, c2, rfl, ho, hb⟩; have HO := Lib.hid ho; have HB3 := Lib.hid (HB2.out.trans (hb.mono HB2.out.size)); have HX3 := Lib.hid (blk_below HX2.out hb); clear ho hb))
    | (go_at_call 36; go_must (refine (HFITS.out _ HB3.out).mono ?_; rintro e w3 ⟨rfl, hb⟩; have HO2 := Lib.hid (own_below HO.out hb); have HB4 := Lib.hid (HB3.out.trans (hb.mono HB3.out.size)); have HX4 := Lib.hid (blk_below HX3.out hb); clear hb))
    | (go_at_call 37; go_must (refine (HSHAPE.out _ HB4.out).mono ?_; rintro e w4 ⟨rfl, hb⟩; have HO3 := Lib.hid (own_below HO2.out hb); have HB5 := Lib.hid (HB4.out.trans (hb.mono HB4.out.size)); have HX5 := Lib.hid (blk_below HX4.out hb); clear hb))
    | (go_at_call 38; go_must (refine (HPAD.out _ _ _ (Bs.of_own HO3.out)).mono ?_; rintro e w5 ⟨A5, c5, rfl, ho, hb⟩; have HB6 := Lib.hid (HB5.out.trans (hb.mono HB5.out.size)); have HX6 := Lib.hid (blk_below HX5.out hb); clear ho hb; have hx0 : w5.cell? ⟨w.heap.size, 0, none⟩ = some (.int .u64 s.serial) := blk_cell HX6.out 0))
    | (go_at_call 39; go_must (refine (HWR.out _ _ _ HB6.out).mono ?_; rintro e w6 ⟨rfl, hb⟩; have HB7 := Lib.hid (HB6.out.trans (hb.mono HB6.out.size)); clear hb)))
  go_ret
  exact ⟨rfl, HB7.out⟩
theorem Load_bad (h : OnDisk X w d fb lb bb c k) (hn : ¬ (2 ≤ k.n ∧ 72 ≤ k.size)) :
    Calls Tryz.prog 15 #[.pointer (some ⟨d, 0, none⟩)] w (RetS w (Sup.zero, 80)) := by
  have HMADE := Lib.hid (fun (W : World) (hb : Below w.heap.size w W) => smade_ok (h.below hb))
  have HFITS := Lib.hid (fun (W : World) (hb : Below w.heap.size w W) => by have := sfits_any (h.below hb); rw [if_neg hn] at this; exact this)
  have b1 : Below w.heap.size w (w.alloc (.cells #[.int .u64 0, .int .i64 0, .int .i64 0, .int .i64 0, .int .i64 0, .int .i64 0, .int .i64 0, .int .i64 0, .int .u32 0] 30)) := (Below.refl _ w).alloc (Nat.le_refl _) _
  have HB1 := Lib.hid b1
  have HX := Lib.hid (blk_new w (.cells #[.int .u64 0, .int .i64 0, .int .i64 0, .int .i64 0, .int .i64 0, .int .i64 0, .int .i64 0, .int .i64 0, .int .u32 0] 30))
  clear b1 h hn
  go_enter Tryz.func15, Tryz.ntmps15
  go_wp2_with (first
    | (go_at_call 34; go_must (refine (HMADE.out _ HB1.out).mono ?_; rintro e w1 ⟨rfl, hb⟩; have HB2 := Lib.hid (HB1.out.trans (hb.mono HB1.out.size)); have HX2 := Lib.hid (blk_below HX.out hb); clear hb))
    | (go_at_call 36; go_must (refine (HFITS.out _ HB2.out).mono ?_; rintro e w3 ⟨rfl, hb⟩; have HB3 := Lib.hid (HB2.out.trans (hb.mono HB2.out.size)); have HX3 := Lib.hid (blk_below HX2.out hb); clear hb))
    | (refine wpList_store_blk rfl 30 _ _ rfl (b := w.heap.size) rfl rfl _ rfl rfl (by simp [Value.oneCell']) HX3.out rfl ?_; intro w9 hb9 hg9 hz9; have HB9 := Lib.hid hb9; have HG9 := Lib.hid hg9; clear hb9 hg9 hz9))
  refine bodyPost_ret (results_blk 2 3 30 rfl rfl rfl _ rfl rfl (fun _ => by simp [go_sem, isAgg]) HB9.out) rfl ⟨?_, ?_⟩
  · rfl
  · exact grown_bel HB3.out HG9.out (Nat.le_refl _)
end
section
variable {w w' : World} {r L cap : Nat} {k : Dsk} {X : Nat → Prop}
theorem RSave_bad (h : OnRef X w r L cap k) (s : Sup) (hbad : ¬ s.ok) :
    Calls Tryz.prog 19 #[.pointer (some ⟨r, 0, none⟩), .agg s.cells] w fun e w' => e = .returned (.int .i64 90) ∧ Below w.heap.size w w' := by
  have HENC := Lib.hid (fun (W : World) => REncode_bad s W hbad)
  have b1 : Below w.heap.size w (w.alloc (.cells s.cells 30)) := (Below.refl _ w).alloc (Nat.le_refl _) _
  have HB1 := Lib.hid b1
  have HX := Lib.hid (blk_new w (.cells s.cells 30))
  have hcells := Lib.hid (show s.cells = #[.int .u64 s.serial, .int .i64 s.epoch, .int .i64 s.view, .int .i64 s.normal, .int .i64 s.top, .int .i64 s.base, .int .i64 s.area, .int .i64 s.start, .int .u32 s.chain] from rfl)
  rw [hcells.out] at HB1 HX HENC ⊢
  clear b1 h hbad
  go_enter Tryz.func19, Tryz.ntmps19
  go_wp2_with (first
    | (refine wpList_load_blk rfl 30 _ rfl (b := w.heap.size) rfl _ rfl rfl (fun _ => by simp [go_sem, isAgg]) HX.out ?_)
    | (go_at_call 49; go_must (refine (HENC.out _).mono ?_; rintro e w2 ⟨rfl, hb⟩; have HB3 := Lib.hid (HB1.out.trans (hb.mono HB1.out.size)); clear hb)))
  go_ret
  exact ⟨rfl, HB3.out⟩
theorem RSave_fits (h : OnRef X w r L cap k) (s : Sup) (hf : s.fit) (hok : s.ok) (hn : ¬ (2 ≤ k.n ∧ 72 ≤ k.size)) :
    Calls Tryz.prog 19 #[.pointer (some ⟨r, 0, none⟩), .agg s.cells] w fun e w' => e = .returned (.int .i64 80) ∧ Below w.heap.size w w' := by
  have HFITS := Lib.hid (fun (W : World) (hb : Below w.heap.size w W) => by have := Rfits_ok (h.below hb); rw [decide_eq_false hn] at this; exact this)
  have HENC := Lib.hid (fun (W : World) => REncode_ok s W hf hok)
  have b1 : Below w.heap.size w (w.alloc (.cells s.cells 30)) := (Below.refl _ w).alloc (Nat.le_refl _) _
  have HB1 := Lib.hid b1
  have HX := Lib.hid (blk_new w (.cells s.cells 30))
  have hcells := Lib.hid (show s.cells = #[.int .u64 s.serial, .int .i64 s.epoch, .int .i64 s.view, .int .i64 s.normal, .int .i64 s.top, .int .i64 s.base, .int .i64 s.area, .int .i64 s.start, .int .u32 s.chain] from rfl)
  rw [hcells.out] at HB1 HX HENC ⊢
  clear b1 h hf hok hn
  go_enter Tryz.func19, Tryz.ntmps19
  go_wp2_with (first
    | (refine wpList_load_blk rfl 30 _ rfl (b := w.heap.size) rfl _ rfl rfl (fun _ => by simp [go_sem, isAgg]) HX.out ?_)
    | (go_at_call 49; go_must (refine (HENC.out _).mono ?_; rintro e w2 ⟨A2, c2, rfl, ho, hb⟩; have HB3 := Lib.hid (HB1.out.trans (hb.mono HB1.out.size)); clear ho hb))
    | (go_at_call 50; go_must (refine (HFITS.out _ HB3.out).mono ?_; rintro e wx ⟨rfl, hwx⟩; obtain rfl := hwx.symm)))
  go_ret
  exact ⟨rfl, HB3.out⟩
set_option maxHeartbeats 2000000 in
theorem RSave_power (h : OnRef X w r L cap k) (s : Sup) (hf : s.fit) (hok : s.ok) (hn : 2 ≤ k.n) (hs : 72 ≤ k.size) (hon : ¬ k.on) :
    Calls Tryz.prog 19 #[.pointer (some ⟨r, 0, none⟩), .agg s.cells] w fun e w' => e = .returned (.int .i64 82) ∧ OnRef X w' r L cap k ∧ Touch (fun b => b = r ∨ b = L) w w' := by
  have hs2 := h.s2
  have hpl := pad_len k.size hs
  have hser : s.serial < 18446744073709551616 := hf.1
  have hm2 : s.serial % 2 < 2 := Nat.mod_lt _ (by omega)
  have HFITS := Lib.hid (fun (W : World) (hb : Below w.heap.size w W) => by have := Rfits_ok (h.below hb); rw [decide_eq_true (And.intro hn hs)] at this; exact this)
  have HENC := Lib.hid (fun (W : World) => REncode_ok s W hf hok)
  have HPAD := Lib.hid (fun (A : Option Addr) (c' : Nat) (W : World) (hb : Bs W A 72 c' (supB s)) => by have := RPad_ok A 72 c' (supB s) W hb k.size (by omega) (by omega) (by omega); rw [hpl] at this; exact this)
  have HSZ := Lib.hid (fun (W : World) (hb : Below w.heap.size w W) => (cell_keep hb (blk_cell h.blk 0) : W.cell? ⟨r, 0, none⟩ = some (.int .i64 (k.size : Int))))
  have HWR := Lib.hid (fun (A : Option Addr) (c' : Nat) (W : World) (hb : Below w.heap.size w W) => by
    have := RefWrite_power (h.below hb) A k.size c' 1 (s.serial % 2) (by omega) (by omega) (by omega) hon
    rw [show ((s.serial % 2 : Nat) : Int) = (s.serial : Int) % 2 from rfl] at this
    exact this)
  have b1 : Below w.heap.size w (w.alloc (.cells s.cells 30)) := (Below.refl _ w).alloc (Nat.le_refl _) _
  have HB1 := Lib.hid b1
  have HX := Lib.hid (blk_new w (.cells s.cells 30))
  have hcells := Lib.hid (show s.cells = #[.int .u64 s.serial, .int .i64 s.epoch, .int .i64 s.view, .int .i64 s.normal, .int .i64 s.top, .int .i64 s.base, .int .i64 s.area, .int .i64 s.start, .int .u32 s.chain] from rfl)
  rw [hcells.out] at HB1 HX HENC ⊢
  clear b1 h hf hok hn hs hon hpl
  go_enter Tryz.func19, Tryz.ntmps19
  go_wp2_with (first
    | (refine wpList_load_blk rfl 30 _ rfl (b := w.heap.size) rfl _ rfl rfl (fun _ => by simp [go_sem, isAgg]) HX.out ?_)
    | (go_at_call 49; go_must (refine (HENC.out _).mono ?_; rintro e w2 ⟨A2, c2, rfl, ho, hb⟩; have HO := Lib.hid ho; have HB3 := Lib.hid (HB1.out.trans (hb.mono HB1.out.size)); have HX3 := Lib.hid (blk_below HX.out hb); clear ho hb))
    | (go_at_call 50; go_must (refine (HFITS.out _ HB3.out).mono ?_; rintro e wx ⟨rfl, hwx⟩; obtain rfl := hwx.symm; have hsz := HSZ.out _ HB3.out))
    | (go_at_call 51; go_must (refine (HPAD.out _ _ _ (Bs.of_own HO.out)).mono ?_; rintro e w5 ⟨A5, c5, rfl, ho, hb⟩; have HB6 := Lib.hid (HB3.out.trans (hb.mono HB3.out.size)); have HX6 := Lib.hid (blk_below HX3.out hb); clear ho hb hsz; have hx0 : w5.cell? ⟨w.heap.size, 0, none⟩ = some (.int .u64 s.serial) := blk_cell HX6.out 0))
    | (go_at_call 52; go_must (refine (HWR.out _ _ _ HB6.out).mono ?_; rintro e w6 ⟨rfl, hd, ht⟩; have HDK := Lib.hid hd; have HT := Lib.hid ht; clear hd ht)))
  go_ret
  exact ⟨rfl, HDK.out, (Touch.of_below HB6.out).trans HT.out⟩
theorem RLoad_bad (h : OnRef X w r L cap k) (hn : ¬ (2 ≤ k.n ∧ 72 ≤ k.size)) :
    Calls Tryz.prog 26 #[.pointer (some ⟨r, 0, none⟩)] w (RetS w (Sup.zero, 80)) := by
  have HFITS := Lib.hid (fun (W : World) (hb : Below w.heap.size w W) => by have := Rfits_ok (h.below hb); rw [decide_eq_false hn] at this; exact this)
  have HB1 := Lib.hid (show Below w.heap.size w (w.alloc (.cells #[.int .u64 0, .int .i64 0, .int .i64 0, .int .i64 0, .int .i64 0, .int .i64 0, .int .i64 0, .int .i64 0, .int .u32 0] 30)) from (Below.refl _ w).alloc (Nat.le_refl _) _)
  have HX := Lib.hid (blk_new w (.cells #[.int .u64 0, .int .i64 0, .int .i64 0, .int .i64 0, .int .i64 0, .int .i64 0, .int .i64 0, .int .i64 0, .int .u32 0] 30))
  clear h hn
  go_enter Tryz.func26, Tryz.ntmps26
  go_wp2_with (first
    | (go_at_call 50; go_must (refine (HFITS.out _ HB1.out).mono ?_; rintro e wf ⟨rfl, hwf⟩; obtain rfl := hwf.symm))
    | (refine wpList_store_blk rfl 30 _ _ rfl (b := w.heap.size) rfl rfl _ rfl rfl (by simp [Value.oneCell']) HX.out rfl ?_; intro w9 hb9 hg9 hz9; have HB9 := Lib.hid hb9; have HG9 := Lib.hid hg9; clear hb9 hg9 hz9))
  refine bodyPost_ret (results_blk 2 3 30 rfl rfl rfl _ rfl rfl (fun _ => by simp [go_sem, isAgg]) HB9.out) rfl ⟨?_, ?_⟩
  · rfl
  · exact grown_bel HB1.out HG9.out (Nat.le_refl _)
end
section
variable {w w1 w2 w' : World} {B c c' : Nat} {b : Bk} {k k' : Dsk}
theorem loadSt_left (k : Dsk) (x j : Nat) : ({ k with left := x } : Dsk).loadSt j = k.loadSt j := by
  induction j with
  | zero => rfl
  | succ j ih =>
    have e : ({ k with left := x } : Dsk).slot j = k.slot j := by
      unfold Dsk.slot
      rw [read_left]
    simp only [Dsk.loadSt, ih, e]
theorem both_load (h : Duo w B b c k) : ∃ (s : Sup) (z : Int), ∀ w1, Below w.heap.size w w1 → Calls Tryz.prog 15 #[.pointer (some ⟨b.d, 0, none⟩)] w1 (RetS w1 (s, z)) ∧ Calls Tryz.prog 26 #[.pointer (some ⟨b.r, 0, none⟩)] w1 (RetS w1 (s, z)) := by
  obtain ⟨x, hx, hr⟩ := h.ref
  by_cases hf : 2 ≤ k.n ∧ 72 ≤ k.size
  · refine ⟨(k.loadSt 2).1, (k.loadSt 2).2, fun w1 hb => ⟨Load_ok (h.dsk.below hb) hf.1 hf.2, ?_⟩⟩
    have := RLoad_ok (hr.below hb) hf.1 hf.2
    rw [loadSt_left] at this
    exact this
  · exact ⟨Sup.zero, 80, fun w1 hb => ⟨Load_bad (h.dsk.below hb) hf, RLoad_bad (hr.below hb) hf⟩⟩
theorem both_save (h : Duo w B b c k) (s : Sup) (hf : s.fit) (hc : c + 65537 < 1099511627776) : Both w B b c 12 19 #[.pointer (some ⟨b.d, 0, none⟩), .agg s.cells] #[.pointer (some ⟨b.r, 0, none⟩), .agg s.cells] := by
  by_cases hok : s.ok
  · by_cases hfit : 2 ≤ k.n ∧ 72 ≤ k.size
    · by_cases hon : k.on
      · refine h.both (z := 0) (k.less.puts (s.serial % 2) (padB s k.size) 1) (c' := c + 1) (by omega) ((Save_ok h.dsk s hf hok hfit.1 hfit.2 hon (by omega)).mono fun e w1 h => ?_) fun w1 x hx ts hr => (RSave_ok hr s hf hok hfit.1 hfit.2 ((on_left hx).2 hon)).mono ?_
        · exact ⟨h.1, h.2.1, h.2.2.mono fun j _ hj => by rcases hj with rfl | rfl <;> simp [Bk.P]⟩
        · rintro e w2 ⟨rfl, hr2, t2⟩
          rw [rless_left, puts_left] at hr2
          have hd := k.less.puts_dims (s.serial % 2) (padB s k.size) 1
          exact ⟨rfl, _, fun h => by rw [hd.2.2.2.2.1] at h; rw [hd.2.2.2.2.2]; exact left_less hx h, hr2, t2⟩
      · refine h.both k (c' := c) (by omega) (same_of h (Save_power h.dsk s hf hok hfit.1 hfit.2 hon)) fun w1 x hx ts hr => (RSave_power hr s hf hok hfit.1 hfit.2 (fun h => hon ((on_left hx).1 h))).mono ?_
        rintro e w2 ⟨rfl, hr2, t2⟩
        exact ⟨rfl, x, hx, hr2, t2⟩
    · refine h.both k (c' := c) (by omega) (same_of h (Save_fits h.dsk s hf hok hfit)) fun w1 x hx ts hr => (same_r hr (RSave_fits hr s hf hok hfit)).mono ?_
      rintro e w2 ⟨rfl, hr2, t2⟩
      exact ⟨rfl, x, hx, hr2, t2⟩
  · refine h.both k (c' := c) (by omega) (same_of h (Save_bad h.dsk s hok)) fun w1 x hx ts hr => (same_r hr (RSave_bad hr s hok)).mono ?_
    rintro e w2 ⟨rfl, hr2, t2⟩
    exact ⟨rfl, x, hx, hr2, t2⟩
/-- A crash of both, the program first. -/
theorem both_crash2 (h : Duo w B b c k) (KA : Option Addr) (m kc : Nat) (keep : List Bool) (torn cut : Int) (hK : Rd w 1 KA m kc (keep.map Value.bool)) (hKA : 0 < m → ∀ ad, KA = some ad → ad.block < B) :
    Calls Tryz.prog 16 #[.pointer (some ⟨b.d, 0, none⟩), .agg #[.slice KA m kc, .int .i64 torn, .int .i64 cut]] w fun e w1 => (∃ v, e = .returned v) ∧ Touch b.S w w1 ∧
      Calls Tryz.prog 21 #[.pointer (some ⟨b.r, 0, none⟩), .agg #[.slice KA m kc, .int .i64 torn, .int .i64 cut]] w1 fun e w2 => (∃ v, e = .returned v) ∧ Touch b.S w w2 ∧ ∃ k' c', Duo w2 B b c' k' ∧ c' ≤ c + 65537 := by
  have hlow : ∀ ad, KA = some ad → 0 < m → ¬ b.S ad.block := fun ad e h0 hs => by have := hKA h0 ad e; have := h.low _ hs; omega
  refine (Crash_ok h.dsk KA m kc keep torn cut hK).mono ?_
  rintro e w1 ⟨rfl, hd, t⟩
  have t : Touch b.P w w1 := t
  obtain ⟨x, hx, hr, ts, fin⟩ := h.fst hd t
  refine ⟨⟨_, rfl⟩, ts, (RCrash_ok hr KA m kc keep torn cut (hK.touch ts fun h0 ad e => hlow ad e h0) fun h0 ad e => ⟨fun e2 => hlow ad e h0 (.inr (.inl e2)), fun e2 => hlow ad e h0 (.inr (.inr e2))⟩).mono ?_⟩
  rintro e w2 ⟨hv, hr2, t2⟩
  have t2 : Touch b.R w1 w2 := t2
  rw [crash_left] at hr2
  obtain ⟨hduo, ts2⟩ := fin w2 0 (fun h => by simp [Dsk.crash, Dsk.calm] at h) hr2 t2
  exact ⟨hv, ts2, _, c, hduo, by omega⟩
end
end Go.Proofs.YtaldjmhikebecaaGreat
namespace Go.Proofs.YtaldjmhikebecaaGreat
open Go Go.RowKit
set_option maxRecDepth 100000
set_option linter.unusedVariables false
attribute [local go_sem] Oper.semAt_some
theorem wpList_load_at {P : Program} {w : World} {ops : Array Oper} {rest : List Oper} {o : Oper} {a : Act} {Q : Exit → Act → World → Prop} (hgd : o.guard = none) (t : TypeId) (x : Operand)
    (ho : o.op = .load t x) {b q : Nat} {cs : Array Value} (hx : a.eval x = .pointer (some ⟨b, q, none⟩)) (ie : TypeInfo) (hie : P.info? t = some ie) (hs : cs.size = ie.size)
    (hagg : ∀ w, (isAgg t).run P w = .ok true w) (hb : ∀ i v, cs[i]? = some v → w.cell? ⟨b, q + i, none⟩ = some v)
    (h : wpList P ops Q rest (a.put o.dst (.agg cs)) w) : wpList P ops Q (o :: rest) a w := by
  have hr := Lib.rl_loadVar_cells (P := P) t ie hie hagg b q cs.toList (by simpa using hs) w (fun k v hk => hb k v (by simpa using hk))
  refine wpList_plain hgd fun K hK => ?_
  unfold Oper.wp
  simp [execOp, ho, hx, Instr.loadAt, Instr.sureAddr, hr, Result.andThen]
  exact hK _ _ h
theorem duo_madeP {w w1 w2 : World} {d fb lb bb r L cap n s : Nat} (hd : OnDisk (fun b => b = d ∨ b = fb) w1 d fb lb bb 0 (Dsk.new n s)) (hg : w.heap.size ≤ d ∧ w.heap.size ≤ fb ∧ w.heap.size ≤ lb ∧ w.heap.size ≤ bb) (hb1 : Below w.heap.size w w1)
    (hr : OnRef (fun b => (b = d ∨ b = fb) ∨ b = r ∨ b = L) w2 r L cap (Dsk.new n s)) (hg2 : w1.heap.size ≤ r ∧ w1.heap.size ≤ L) (hb2 : Below w1.heap.size w1 w2) : ∃ b k, Bk.d b = d ∧ Bk.r b = r ∧ Duo w2 w.heap.size b 0 k := by
  have hl := hd.lts
  have hs1 := hb1.size
  have hrl := blk_lt hr.blk
  have hLl : L < w2.heap.size := by obtain ⟨cur, h1, _⟩ := hr.row; exact blk_lt h1
  refine ⟨⟨d, fb, lb, bb, r, L, cap⟩, Dsk.new n s, rfl, rfl, ⟨?_, ⟨0, fun _ => rfl, hr⟩, ?_, ?_⟩⟩
  · refine hd.widen hb2 (fun b h => .inl h) (fun b h => ?_)
    rcases h with h | rfl | rfl
    · exact .inl h
    · exact .inr ⟨hg2.1, hrl⟩
    · exact .inr ⟨hg2.2, hLl⟩
  · rintro i ((rfl | rfl | rfl | rfl) | (rfl | rfl)) <;> (try dsimp only at *) <;> omega
  · rintro i (rfl | rfl | rfl | rfl) (h | h) <;> (try dsimp only at h) <;> omega
theorem Duo.ltP {w : World} {B c : Nat} {b : Bk} {k : Dsk} (h : Duo w B b c k) : ∀ i, b.S i → i < w.heap.size := by
  obtain ⟨x, hx, hr⟩ := h.ref
  obtain ⟨cur, h1, _⟩ := hr.row
  have hl := h.dsk.lts
  rintro i ((rfl | rfl | rfl | rfl) | (rfl | rfl))
  · exact hl.1
  · exact hl.2.1
  · exact hl.2.2.1
  · exact hl.2.2.2
  · exact blk_lt hr.blk
  · exact blk_lt h1
theorem New_okI2 (n s : Int) (w : World) (hn : 1 ≤ n ∧ n ≤ 65536) (hs : 1 ≤ s ∧ s ≤ 8192) : Calls Tryz.prog 11 #[.int .i64 n, .int .i64 s] w (MadeDisk w n.toNat s.toNat) := by
  obtain ⟨n, rfl⟩ := Int.eq_ofNat_of_zero_le (show 0 ≤ n by omega)
  obtain ⟨s, rfl⟩ := Int.eq_ofNat_of_zero_le (show 0 ≤ s by omega)
  exact New_ok n s w (by omega) (by omega) (by omega) (by omega)
theorem RNew_okI2 (X : Nat → Prop) (n s : Int) (w : World) (hX : ∀ b, X b → b < w.heap.size) (hn : 1 ≤ n ∧ n ≤ 65536) (hs : 1 ≤ s ∧ s ≤ 8192) : Calls Tryz.prog 18 #[.int .i64 n, .int .i64 s] w (MadeRef X w n.toNat s.toNat) := by
  obtain ⟨n, rfl⟩ := Int.eq_ofNat_of_zero_le (show 0 ≤ n by omega)
  obtain ⟨s, rfl⟩ := Int.eq_ofNat_of_zero_le (show 0 ≤ s by omega)
  exact RNew_ok X n s w hX (by omega) (by omega) (by omega) (by omega)
def SRunsAt (w : World) (B : Nat) (b : Bk) (j : Nat) : Prop := ∃ k c, Duo w B b c k ∧ c ≤ j * 65537
/-- Behind a call of both: the pair, and what has been touched. -/
def SMid (w W : World) (B : Nat) (b : Bk) (j : Nat) : Prop := SRunsAt W B b (j + 1) ∧ Touch b.S w W
theorem SRunsAt.step {w W : World} {B j c : Nat} {b : Bk} (hc : c ≤ j * 65537) (h : ∃ k' c', Duo W B b c' k' ∧ c' ≤ c + 65537) : SRunsAt W B b (j + 1) := by
  obtain ⟨k', c', hd, hc'⟩ := h
  exact ⟨k', c', hd, by omega⟩
theorem SRunsAt.below {w W : World} {B j : Nat} {b : Bk} (h : SRunsAt w B b j) (hb : Below w.heap.size w W) : SRunsAt W B b j := by
  obtain ⟨k, c, hd, hc⟩ := h
  exact ⟨k, c, hd.below hb, hc⟩
theorem srun_touch {w0 w W : World} {B : Nat} {b : Bk} {j : Nat} (h : Below w0.heap.size w0 w) (t : Touch b.S w W) (hr : SRunsAt w B b j) (hB : w0.heap.size ≤ B) : Below w0.heap.size w0 W := by
  obtain ⟨k, c, hd, _⟩ := hr
  exact t.below h (Nat.le_refl _) fun i hi => Nat.le_trans hB (hd.low i hi)
end Go.Proofs.YtaldjmhikebecaaGreat
namespace Go.Proofs.YtaldjmhikebecaaGreat
open Go Go.RowKit
set_option maxRecDepth 100000
set_option linter.unusedVariables false
attribute [local go_sem] Oper.semAt_some
set_option maxHeartbeats 8000000 in
theorem SuperRuns_walk (w : World) (s : Int) (hs : I64 s) (z : Int) (hz : I64 z) (A : Option Addr) (n c : Nat) (ho : OpsPAt w A n c) : Calls Tryz.prog 5 #[.int .i64 s, .int .i64 z, .slice A n c] w (RetTrue w) := by
  have HO := Lib.hid ho
  have hn : n ≤ 9223372036854775807 := by have h1 := ho.le; have h2 := ho.max; unfold maxLen at h2; omega
  clear ho
  by_cases hg : 1 ≤ s ∧ 1 ≤ z
  · have HG4 := Lib.hid (show 1 ≤ min s 4 ∧ min s 4 ≤ 65536 by omega)
    have HG100 := Lib.hid (show 1 ≤ min z 100 ∧ min z 100 ≤ 8192 by omega)
    clear hg hs hz
    go_enter Tryz.func5, Tryz.ntmps5
    go_upto_region 4 with (go_at_call 9; go_must (refine (awake_true _).mono ?_; rintro e w1 ⟨rfl, hb1⟩; have HB1 := Lib.hid hb1; clear hb1))
    generalize min s 4 = s' at HG4 ⊢
    generalize min z 100 = z' at HG100 ⊢
    go_wp2_with (first
      | (go_at_call 11; go_must (refine (New_okI2 _ _ _ HG4.out HG100.out).mono ?_; rintro e w2 ⟨d, fb, lb, bb, rfl, hd, hg, hb1⟩; have HD := Lib.hid hd; have HG := Lib.hid hg; have HB2 := Lib.hid hb1; clear hd hg hb1))
      | (go_at_call 18; go_must (refine (RNew_okI2 (fun b => b = d ∨ b = fb) _ _ _ HD.out.xlt HG4.out HG100.out).mono ?_; rintro e w3 ⟨r, L, cap, rfl, hr, hg2, hb2⟩; obtain ⟨b, k, e1, e2, hduo⟩ := duo_madeP HD.out HG.out HB2.out hr hg2 hb2; have HR3 := Lib.hid (show SRunsAt w3 w1.heap.size b 0 from ⟨k, 0, hduo, by omega⟩); have HB3 := Lib.hid (bthen HB1.out (bthen HB2.out hb2)); have HS1 := Lib.hid HB1.out.size; clear hr hg2 hb2 hduo HD HG HB2; subst e1 e2)))
    go_loopw [11] (fun i' wr => ∃ j : Nat, j ≤ n ∧ j ≤ 50 ∧ i' = .int .i64 (j : Int) ∧ Hid (SRunsAt wr w1.heap.size b j) ∧ Hid (Below w.heap.size w wr)) (fun i' _ => 50 - (intOf i').toNat)
    case atStart => exact ⟨0, Nat.zero_le _, by omega, rfl, HR3, HB3⟩
    case round =>
      obtain ⟨j, hj, h50, rfl, hr, hb⟩ := hrel
      by_cases hlt : j < n ∧ j < 50
      · obtain ⟨h1, h2⟩ := hlt
        obtain ⟨ad, rfl, p, q, o, hpq, hoc, hoa⟩ := HO.out.op h1 hb.out
        have HOC := Lib.hid hoc
        have HOA := Lib.hid (hoa.below hb.out)
        have HLT := Lib.hid hoa.lt
        have hms : Hid (¬ b.S wr.heap.size) := Lib.hid (fun hs => by obtain ⟨k9, c9, hd9, _⟩ := hr.out; have := hd9.ltP _ hs; omega)
        clear hoc hoa
        go_upto_region 12 with (first
          | (refine wpList_load_at rfl 53 _ rfl (b := p) (q := q) rfl _ rfl rfl (fun _ => by simp [go_sem, isAgg]) HOC.out ?_)
          | (refine wpList_store_blk rfl 53 _ _ rfl (b := wr.heap.size) rfl rfl _ rfl rfl (by simp [OpP.cells, Value.oneCell']) (blk_new wr _) rfl ?_; intro w4 hb4 hg4 hz4; have HX := Lib.hid hb4; have HW4 := Lib.hid (show Below wr.heap.size wr w4 from grown_bel ((Below.refl _ _).alloc (Nat.le_refl _) _) hg4 (Nat.le_refl _)); clear hb4 hg4 hz4))
        have HR4 := Lib.hid (hr.out.below HW4.out)
        have HB4 := Lib.hid (bthen hb.out HW4.out)
        have HOA4 := Lib.hid (HOA.out.below HW4.out)
        have x0 : w4.cell? ⟨wr.heap.size, 0, none⟩ = some (.int .i64 o.kd) := blk_cell HX.out 0
        have x1 : w4.cell? ⟨wr.heap.size, 1, none⟩ = some (.int .u64 o.s.serial) := blk_cell HX.out 1
        have x2 : w4.cell? ⟨wr.heap.size, 2, none⟩ = some (.int .i64 o.s.epoch) := blk_cell HX.out 2
        have x3 : w4.cell? ⟨wr.heap.size, 3, none⟩ = some (.int .i64 o.s.view) := blk_cell HX.out 3
        have x4 : w4.cell? ⟨wr.heap.size, 4, none⟩ = some (.int .i64 o.s.normal) := blk_cell HX.out 4
        have x5 : w4.cell? ⟨wr.heap.size, 5, none⟩ = some (.int .i64 o.s.top) := blk_cell HX.out 5
        have x6 : w4.cell? ⟨wr.heap.size, 6, none⟩ = some (.int .i64 o.s.base) := blk_cell HX.out 6
        have x7 : w4.cell? ⟨wr.heap.size, 7, none⟩ = some (.int .i64 o.s.area) := blk_cell HX.out 7
        have x8 : w4.cell? ⟨wr.heap.size, 8, none⟩ = some (.int .i64 o.s.start) := blk_cell HX.out 8
        have x9 : w4.cell? ⟨wr.heap.size, 9, none⟩ = some (.int .u32 o.s.chain) := blk_cell HX.out 9
        have x10 : w4.cell? ⟨wr.heap.size, 10, none⟩ = some (.slice o.KA o.kn o.kc) := blk_cell HX.out 10
        have x11 : w4.cell? ⟨wr.heap.size, 11, none⟩ = some (.int .i64 o.torn) := blk_cell HX.out 11
        have x12 : w4.cell? ⟨wr.heap.size, 12, none⟩ = some (.int .i64 o.cut) := blk_cell HX.out 12
        have x13 : w4.cell? ⟨wr.heap.size, 13, none⟩ = some (.int .i64 o.i) := blk_cell HX.out 13
        have x14 : w4.cell? ⟨wr.heap.size, 14, none⟩ = some (.slice o.BA o.bn o.bc) := blk_cell HX.out 14
        obtain ⟨k, c0, hduo, hc0⟩ := HR4.out
        have hHS : ∀ ad, (0 < o.bn → o.BA = some ad → ad.block < w1.heap.size) ∧ (0 < o.kn → o.KA = some ad → ad.block < w1.heap.size) := fun ad => ⟨fun h0 e => Nat.lt_of_lt_of_le (HLT.out.1 h0 ad e) HS1.out, fun h0 e => Nat.lt_of_lt_of_le (HLT.out.2 h0 ad e) HS1.out⟩
        have HCC := Lib.hid (show c0 + 65537 < 1099511627776 by omega)
        have HD := Lib.hid hduo
        have HKEEP := Lib.hid (fun (W : World) (t : Touch b.S w4 W) => t.blk HX.out hms.out)
        have HHS := Lib.hid hHS
        have HC0 := Lib.hid hc0
        clear hduo hHS hc0
        generalize wr.heap.size = pb at *
        rcases (by omega : o.kd = 1 ∨ o.kd = 2 ∨ o.kd = 3 ∨ o.kd = 4 ∨ (o.kd ≠ 1 ∧ o.kd ≠ 2 ∧ o.kd ≠ 3 ∧ o.kd ≠ 4)) with hk | hk | hk | hk | ⟨hk1, hk2, hk3, hk4⟩
        · rw [hk] at x0
          have hbo := both_save (HD.out.below (Below.refl _ w4).drew) o.s HOA.out.fit HCC.out
          rw [show o.s.cells = #[.int .u64 o.s.serial, .int .i64 o.s.epoch, .int .i64 o.s.view, .int .i64 o.s.normal, .int .i64 o.s.top, .int .i64 o.s.base, .int .i64 o.s.area, .int .i64 o.s.start, .int .u32 o.s.chain] from rfl] at hbo
          have HBO := Lib.hid hbo
          have HNI := Lib.hid (fun (W : World) (t : Touch b.S w4.drew W) => (fun (hb : W.heap[pb]? = some (.cells o.cells.toArray 53 (0, 0))) => (⟨blk_cell hb 1, blk_cell hb 2, blk_cell hb 3, blk_cell hb 4, blk_cell hb 5, blk_cell hb 6, blk_cell hb 7, blk_cell hb 8, blk_cell hb 9⟩ : W.cell? ⟨pb, 1, none⟩ = some (.int .u64 o.s.serial) ∧ W.cell? ⟨pb, 2, none⟩ = some (.int .i64 o.s.epoch) ∧ W.cell? ⟨pb, 3, none⟩ = some (.int .i64 o.s.view) ∧ W.cell? ⟨pb, 4, none⟩ = some (.int .i64 o.s.normal) ∧ W.cell? ⟨pb, 5, none⟩ = some (.int .i64 o.s.top) ∧ W.cell? ⟨pb, 6, none⟩ = some (.int .i64 o.s.base) ∧ W.cell? ⟨pb, 7, none⟩ = some (.int .i64 o.s.area) ∧ W.cell? ⟨pb, 8, none⟩ = some (.int .i64 o.s.start) ∧ W.cell? ⟨pb, 9, none⟩ = some (.int .u32 o.s.chain))) (HKEEP.out W ((Touch.of_below (Below.refl _ w4).drew).trans t)))
          clear hbo hk
          go_upto_region 16 with fail
          have hS0 : w4.drew.cell? ⟨pb, 1, none⟩ = some (.int .u64 o.s.serial) ∧ w4.drew.cell? ⟨pb, 2, none⟩ = some (.int .i64 o.s.epoch) ∧ w4.drew.cell? ⟨pb, 3, none⟩ = some (.int .i64 o.s.view) ∧ w4.drew.cell? ⟨pb, 4, none⟩ = some (.int .i64 o.s.normal) ∧ w4.drew.cell? ⟨pb, 5, none⟩ = some (.int .i64 o.s.top) ∧ w4.drew.cell? ⟨pb, 6, none⟩ = some (.int .i64 o.s.base) ∧ w4.drew.cell? ⟨pb, 7, none⟩ = some (.int .i64 o.s.area) ∧ w4.drew.cell? ⟨pb, 8, none⟩ = some (.int .i64 o.s.start) ∧ w4.drew.cell? ⟨pb, 9, none⟩ = some (.int .u32 o.s.chain) := ⟨x1, x2, x3, x4, x5, x6, x7, x8, x9⟩
          clear x0 x1 x2 x3 x4 x5 x6 x7 x8 x9 x10 x11 x12 x13 x14
          go_region_held3 (fun W => W.cell? ⟨pb, 1, none⟩ = some (.int .u64 o.s.serial) ∧ W.cell? ⟨pb, 2, none⟩ = some (.int .i64 o.s.epoch) ∧ W.cell? ⟨pb, 3, none⟩ = some (.int .i64 o.s.view) ∧ W.cell? ⟨pb, 4, none⟩ = some (.int .i64 o.s.normal) ∧ W.cell? ⟨pb, 5, none⟩ = some (.int .i64 o.s.top) ∧ W.cell? ⟨pb, 6, none⟩ = some (.int .i64 o.s.base) ∧ W.cell? ⟨pb, 7, none⟩ = some (.int .i64 o.s.area) ∧ W.cell? ⟨pb, 8, none⟩ = some (.int .i64 o.s.start) ∧ W.cell? ⟨pb, 9, none⟩ = some (.int .u32 o.s.chain)) (first | assumption | simp only [*, and_self])
            (first
            | (go_at_call 12; refine HBO.out.mono ?_; rintro e w5 ⟨z1, rfl, t1, hg⟩; have HG := Lib.hid hg; have hS1 := HNI.out w5 t1; clear hg t1)
            | (go_at_call 19; refine HG.out.mono ?_; rintro e w6 ⟨rfl, t3, hd2⟩; have t2 := (Touch.of_below (S := b.S) (Below.refl _ w4).drew).trans t3; have hS2 := HNI.out w6 t3; clear t3; have HR6 := Lib.hid (SRunsAt.step (w := w4) HC0.out hd2); have HB6 := Lib.hid (srun_touch HB4.out t2 HR4.out HS1.out); obtain ⟨k6, c6, hd6, hc6⟩ := HR6.out; obtain ⟨ls, lz, hld⟩ := both_load hd6; have HLD1 := Lib.hid (show Calls Tryz.prog 15 #[.pointer (some ⟨b.d, 0, none⟩)] w6 fun e w' => e = .returned (.tuple #[.agg #[.int .u64 ls.serial, .int .i64 ls.epoch, .int .i64 ls.view, .int .i64 ls.normal, .int .i64 ls.top, .int .i64 ls.base, .int .i64 ls.area, .int .i64 ls.start, .int .u32 ls.chain], .int .i64 lz]) ∧ Below w6.heap.size w6 w' from (hld _ (Below.refl _ _)).1); have HLD2 := Lib.hid (fun (W : World) (hb : Below w6.heap.size w6 W) => (show Calls Tryz.prog 26 #[.pointer (some ⟨b.r, 0, none⟩)] W fun e w' => e = .returned (.tuple #[.agg #[.int .u64 ls.serial, .int .i64 ls.epoch, .int .i64 ls.view, .int .i64 ls.normal, .int .i64 ls.top, .int .i64 ls.base, .int .i64 ls.area, .int .i64 ls.start, .int .u32 ls.chain], .int .i64 lz]) ∧ Below W.heap.size W w' from (hld W hb).2)); clear hd2 t2 hd6 hc6 hld))
          go_wp2_with (first
          | (go_at_call 15; go_must (refine HLD1.out.mono ?_; rintro e w7 ⟨rfl, hb7⟩; have HN7 := Lib.hid (blk_new w7 (.cells #[.int .u64 ls.serial, .int .i64 ls.epoch, .int .i64 ls.view, .int .i64 ls.normal, .int .i64 ls.top, .int .i64 ls.base, .int .i64 ls.area, .int .i64 ls.start, .int .u32 ls.chain] 30)); have HB7 := Lib.hid (hb7.alloc hb7.size (.cells #[.int .u64 ls.serial, .int .i64 ls.epoch, .int .i64 ls.view, .int .i64 ls.normal, .int .i64 ls.top, .int .i64 ls.base, .int .i64 ls.area, .int .i64 ls.start, .int .u32 ls.chain] 30)); clear hb7))
          | (go_at_call 26; go_must (refine (HLD2.out _ HB7.out).mono ?_; rintro e w8 ⟨rfl, hb8⟩; have HN7b := Lib.hid (blk_alloc (blk_below HN7.out hb8) (.cells #[.int .u64 ls.serial, .int .i64 ls.epoch, .int .i64 ls.view, .int .i64 ls.normal, .int .i64 ls.top, .int .i64 ls.base, .int .i64 ls.area, .int .i64 ls.start, .int .u32 ls.chain] 30)); have HN8 := Lib.hid (blk_new w8 (.cells #[.int .u64 ls.serial, .int .i64 ls.epoch, .int .i64 ls.view, .int .i64 ls.normal, .int .i64 ls.top, .int .i64 ls.base, .int .i64 ls.area, .int .i64 ls.start, .int .u32 ls.chain] 30)); have HB8 := Lib.hid ((bthen HB7.out hb8).alloc (bthen HB7.out hb8).size (.cells #[.int .u64 ls.serial, .int .i64 ls.epoch, .int .i64 ls.view, .int .i64 ls.normal, .int .i64 ls.top, .int .i64 ls.base, .int .i64 ls.area, .int .i64 ls.start, .int .u32 ls.chain] 30)); clear hb8))
          | (refine wpList_load_blk rfl 30 _ rfl (b := w7.heap.size) rfl _ rfl rfl (fun _ => by simp [go_sem, isAgg]) HN7b.out ?_)
          | (refine wpList_load_blk rfl 30 _ rfl (b := w8.heap.size) rfl _ rfl rfl (fun _ => by simp [go_sem, isAgg]) HN8.out ?_))
          go_roundw
          case rel => exact ⟨j + 1, by omega, by omega, by go_num, Lib.hid (HR6.out.below HB8.out), Lib.hid (bthen HB6.out HB8.out)⟩
          case measure => simp [intOf]; omega
        · rw [hk] at x0
          have HBO := Lib.hid (both_barrier HD.out)
          clear hk
          go_wp2_with (first
          | (go_at_call 13; go_must (refine HBO.out.mono ?_; rintro e w5 ⟨z1, rfl, t1, hg⟩; have HG := Lib.hid hg;  clear hg t1))
          | (go_at_call 20; go_must (refine HG.out.mono ?_; rintro e w6 ⟨rfl, t2, hd2⟩; have HR6 := Lib.hid (SRunsAt.step (w := w4) HC0.out hd2); have HB6 := Lib.hid (srun_touch HB4.out t2 HR4.out HS1.out); obtain ⟨k6, c6, hd6, hc6⟩ := HR6.out; obtain ⟨ls, lz, hld⟩ := both_load hd6; have HLD1 := Lib.hid (show Calls Tryz.prog 15 #[.pointer (some ⟨b.d, 0, none⟩)] w6 fun e w' => e = .returned (.tuple #[.agg #[.int .u64 ls.serial, .int .i64 ls.epoch, .int .i64 ls.view, .int .i64 ls.normal, .int .i64 ls.top, .int .i64 ls.base, .int .i64 ls.area, .int .i64 ls.start, .int .u32 ls.chain], .int .i64 lz]) ∧ Below w6.heap.size w6 w' from (hld _ (Below.refl _ _)).1); have HLD2 := Lib.hid (fun (W : World) (hb : Below w6.heap.size w6 W) => (show Calls Tryz.prog 26 #[.pointer (some ⟨b.r, 0, none⟩)] W fun e w' => e = .returned (.tuple #[.agg #[.int .u64 ls.serial, .int .i64 ls.epoch, .int .i64 ls.view, .int .i64 ls.normal, .int .i64 ls.top, .int .i64 ls.base, .int .i64 ls.area, .int .i64 ls.start, .int .u32 ls.chain], .int .i64 lz]) ∧ Below W.heap.size W w' from (hld W hb).2)); clear hd2 t2 hd6 hc6 hld))
          | (go_at_call 15; go_must (refine HLD1.out.mono ?_; rintro e w7 ⟨rfl, hb7⟩; have HN7 := Lib.hid (blk_new w7 (.cells #[.int .u64 ls.serial, .int .i64 ls.epoch, .int .i64 ls.view, .int .i64 ls.normal, .int .i64 ls.top, .int .i64 ls.base, .int .i64 ls.area, .int .i64 ls.start, .int .u32 ls.chain] 30)); have HB7 := Lib.hid (hb7.alloc hb7.size (.cells #[.int .u64 ls.serial, .int .i64 ls.epoch, .int .i64 ls.view, .int .i64 ls.normal, .int .i64 ls.top, .int .i64 ls.base, .int .i64 ls.area, .int .i64 ls.start, .int .u32 ls.chain] 30)); clear hb7))
          | (go_at_call 26; go_must (refine (HLD2.out _ HB7.out).mono ?_; rintro e w8 ⟨rfl, hb8⟩; have HN7b := Lib.hid (blk_alloc (blk_below HN7.out hb8) (.cells #[.int .u64 ls.serial, .int .i64 ls.epoch, .int .i64 ls.view, .int .i64 ls.normal, .int .i64 ls.top, .int .i64 ls.base, .int .i64 ls.area, .int .i64 ls.start, .int .u32 ls.chain] 30)); have HN8 := Lib.hid (blk_new w8 (.cells #[.int .u64 ls.serial, .int .i64 ls.epoch, .int .i64 ls.view, .int .i64 ls.normal, .int .i64 ls.top, .int .i64 ls.base, .int .i64 ls.area, .int .i64 ls.start, .int .u32 ls.chain] 30)); have HB8 := Lib.hid ((bthen HB7.out hb8).alloc (bthen HB7.out hb8).size (.cells #[.int .u64 ls.serial, .int .i64 ls.epoch, .int .i64 ls.view, .int .i64 ls.normal, .int .i64 ls.top, .int .i64 ls.base, .int .i64 ls.area, .int .i64 ls.start, .int .u32 ls.chain] 30)); clear hb8))
          | (refine wpList_load_blk rfl 30 _ rfl (b := w7.heap.size) rfl _ rfl rfl (fun _ => by simp [go_sem, isAgg]) HN7b.out ?_)
          | (refine wpList_load_blk rfl 30 _ rfl (b := w8.heap.size) rfl _ rfl rfl (fun _ => by simp [go_sem, isAgg]) HN8.out ?_))
          go_roundw
          case rel => exact ⟨j + 1, by omega, by omega, by go_num, Lib.hid (HR6.out.below HB8.out), Lib.hid (bthen HB6.out HB8.out)⟩
          case measure => simp [intOf]; omega
        · rw [hk] at x0
          have HBO := Lib.hid (both_crash2 HD.out o.KA o.kn o.kc o.keep o.torn o.cut HOA4.out.ks (fun h0 ad e => (HHS.out ad).2 h0 e))
          clear hk
          go_wp2_with (first
          | (go_at_call 16; go_must (refine HBO.out.mono ?_; rintro e w5 ⟨⟨v1, rfl⟩, t1, hg⟩; have HG := Lib.hid hg; have HY := Lib.hid (HKEEP.out w5 t1); have y10 : w5.cell? ⟨pb, 10, none⟩ = some (.slice o.KA o.kn o.kc) := blk_cell HY.out 10; have y11 : w5.cell? ⟨pb, 11, none⟩ = some (.int .i64 o.torn) := blk_cell HY.out 11; have y12 : w5.cell? ⟨pb, 12, none⟩ = some (.int .i64 o.cut) := blk_cell HY.out 12; clear hg t1))
          | (go_at_call 21; go_must (refine HG.out.mono ?_; rintro e w6 ⟨⟨v2, rfl⟩, t2, hd2⟩; have HR6 := Lib.hid (SRunsAt.step (w := w4) HC0.out hd2); have HB6 := Lib.hid (srun_touch HB4.out t2 HR4.out HS1.out); obtain ⟨k6, c6, hd6, hc6⟩ := HR6.out; obtain ⟨ls, lz, hld⟩ := both_load hd6; have HLD1 := Lib.hid (show Calls Tryz.prog 15 #[.pointer (some ⟨b.d, 0, none⟩)] w6 fun e w' => e = .returned (.tuple #[.agg #[.int .u64 ls.serial, .int .i64 ls.epoch, .int .i64 ls.view, .int .i64 ls.normal, .int .i64 ls.top, .int .i64 ls.base, .int .i64 ls.area, .int .i64 ls.start, .int .u32 ls.chain], .int .i64 lz]) ∧ Below w6.heap.size w6 w' from (hld _ (Below.refl _ _)).1); have HLD2 := Lib.hid (fun (W : World) (hb : Below w6.heap.size w6 W) => (show Calls Tryz.prog 26 #[.pointer (some ⟨b.r, 0, none⟩)] W fun e w' => e = .returned (.tuple #[.agg #[.int .u64 ls.serial, .int .i64 ls.epoch, .int .i64 ls.view, .int .i64 ls.normal, .int .i64 ls.top, .int .i64 ls.base, .int .i64 ls.area, .int .i64 ls.start, .int .u32 ls.chain], .int .i64 lz]) ∧ Below W.heap.size W w' from (hld W hb).2)); clear hd2 t2 hd6 hc6 hld))
          | (go_at_call 15; go_must (refine HLD1.out.mono ?_; rintro e w7 ⟨rfl, hb7⟩; have HN7 := Lib.hid (blk_new w7 (.cells #[.int .u64 ls.serial, .int .i64 ls.epoch, .int .i64 ls.view, .int .i64 ls.normal, .int .i64 ls.top, .int .i64 ls.base, .int .i64 ls.area, .int .i64 ls.start, .int .u32 ls.chain] 30)); have HB7 := Lib.hid (hb7.alloc hb7.size (.cells #[.int .u64 ls.serial, .int .i64 ls.epoch, .int .i64 ls.view, .int .i64 ls.normal, .int .i64 ls.top, .int .i64 ls.base, .int .i64 ls.area, .int .i64 ls.start, .int .u32 ls.chain] 30)); clear hb7))
          | (go_at_call 26; go_must (refine (HLD2.out _ HB7.out).mono ?_; rintro e w8 ⟨rfl, hb8⟩; have HN7b := Lib.hid (blk_alloc (blk_below HN7.out hb8) (.cells #[.int .u64 ls.serial, .int .i64 ls.epoch, .int .i64 ls.view, .int .i64 ls.normal, .int .i64 ls.top, .int .i64 ls.base, .int .i64 ls.area, .int .i64 ls.start, .int .u32 ls.chain] 30)); have HN8 := Lib.hid (blk_new w8 (.cells #[.int .u64 ls.serial, .int .i64 ls.epoch, .int .i64 ls.view, .int .i64 ls.normal, .int .i64 ls.top, .int .i64 ls.base, .int .i64 ls.area, .int .i64 ls.start, .int .u32 ls.chain] 30)); have HB8 := Lib.hid ((bthen HB7.out hb8).alloc (bthen HB7.out hb8).size (.cells #[.int .u64 ls.serial, .int .i64 ls.epoch, .int .i64 ls.view, .int .i64 ls.normal, .int .i64 ls.top, .int .i64 ls.base, .int .i64 ls.area, .int .i64 ls.start, .int .u32 ls.chain] 30)); clear hb8))
          | (refine wpList_load_blk rfl 30 _ rfl (b := w7.heap.size) rfl _ rfl rfl (fun _ => by simp [go_sem, isAgg]) HN7b.out ?_)
          | (refine wpList_load_blk rfl 30 _ rfl (b := w8.heap.size) rfl _ rfl rfl (fun _ => by simp [go_sem, isAgg]) HN8.out ?_))
          go_roundw
          case rel => exact ⟨j + 1, by omega, by omega, by go_num, Lib.hid (HR6.out.below HB8.out), Lib.hid (bthen HB6.out HB8.out)⟩
          case measure => simp [intOf]; omega
        · rw [hk] at x0
          have HBO := Lib.hid (both_spoil HD.out o.BA o.bn o.bc o.b HOA4.out.bs (fun h0 ad e => (HHS.out ad).1 h0 e) o.i)
          clear hk
          go_wp2_with (first
          | (go_at_call 22; go_must (refine HBO.out.mono ?_; rintro e w5 ⟨z1, rfl, t1, hg⟩; have HG := Lib.hid hg; have HY := Lib.hid (HKEEP.out w5 t1); have y13 : w5.cell? ⟨pb, 13, none⟩ = some (.int .i64 o.i) := blk_cell HY.out 13; have y14 : w5.cell? ⟨pb, 14, none⟩ = some (.slice o.BA o.bn o.bc) := blk_cell HY.out 14; clear hg t1))
          | (go_at_call 23; go_must (refine HG.out.mono ?_; rintro e w6 ⟨rfl, t2, hd2⟩; have HR6 := Lib.hid (SRunsAt.step (w := w4) HC0.out hd2); have HB6 := Lib.hid (srun_touch HB4.out t2 HR4.out HS1.out); obtain ⟨k6, c6, hd6, hc6⟩ := HR6.out; obtain ⟨ls, lz, hld⟩ := both_load hd6; have HLD1 := Lib.hid (show Calls Tryz.prog 15 #[.pointer (some ⟨b.d, 0, none⟩)] w6 fun e w' => e = .returned (.tuple #[.agg #[.int .u64 ls.serial, .int .i64 ls.epoch, .int .i64 ls.view, .int .i64 ls.normal, .int .i64 ls.top, .int .i64 ls.base, .int .i64 ls.area, .int .i64 ls.start, .int .u32 ls.chain], .int .i64 lz]) ∧ Below w6.heap.size w6 w' from (hld _ (Below.refl _ _)).1); have HLD2 := Lib.hid (fun (W : World) (hb : Below w6.heap.size w6 W) => (show Calls Tryz.prog 26 #[.pointer (some ⟨b.r, 0, none⟩)] W fun e w' => e = .returned (.tuple #[.agg #[.int .u64 ls.serial, .int .i64 ls.epoch, .int .i64 ls.view, .int .i64 ls.normal, .int .i64 ls.top, .int .i64 ls.base, .int .i64 ls.area, .int .i64 ls.start, .int .u32 ls.chain], .int .i64 lz]) ∧ Below W.heap.size W w' from (hld W hb).2)); clear hd2 t2 hd6 hc6 hld))
          | (go_at_call 15; go_must (refine HLD1.out.mono ?_; rintro e w7 ⟨rfl, hb7⟩; have HN7 := Lib.hid (blk_new w7 (.cells #[.int .u64 ls.serial, .int .i64 ls.epoch, .int .i64 ls.view, .int .i64 ls.normal, .int .i64 ls.top, .int .i64 ls.base, .int .i64 ls.area, .int .i64 ls.start, .int .u32 ls.chain] 30)); have HB7 := Lib.hid (hb7.alloc hb7.size (.cells #[.int .u64 ls.serial, .int .i64 ls.epoch, .int .i64 ls.view, .int .i64 ls.normal, .int .i64 ls.top, .int .i64 ls.base, .int .i64 ls.area, .int .i64 ls.start, .int .u32 ls.chain] 30)); clear hb7))
          | (go_at_call 26; go_must (refine (HLD2.out _ HB7.out).mono ?_; rintro e w8 ⟨rfl, hb8⟩; have HN7b := Lib.hid (blk_alloc (blk_below HN7.out hb8) (.cells #[.int .u64 ls.serial, .int .i64 ls.epoch, .int .i64 ls.view, .int .i64 ls.normal, .int .i64 ls.top, .int .i64 ls.base, .int .i64 ls.area, .int .i64 ls.start, .int .u32 ls.chain] 30)); have HN8 := Lib.hid (blk_new w8 (.cells #[.int .u64 ls.serial, .int .i64 ls.epoch, .int .i64 ls.view, .int .i64 ls.normal, .int .i64 ls.top, .int .i64 ls.base, .int .i64 ls.area, .int .i64 ls.start, .int .u32 ls.chain] 30)); have HB8 := Lib.hid ((bthen HB7.out hb8).alloc (bthen HB7.out hb8).size (.cells #[.int .u64 ls.serial, .int .i64 ls.epoch, .int .i64 ls.view, .int .i64 ls.normal, .int .i64 ls.top, .int .i64 ls.base, .int .i64 ls.area, .int .i64 ls.start, .int .u32 ls.chain] 30)); clear hb8))
          | (refine wpList_load_blk rfl 30 _ rfl (b := w7.heap.size) rfl _ rfl rfl (fun _ => by simp [go_sem, isAgg]) HN7b.out ?_)
          | (refine wpList_load_blk rfl 30 _ rfl (b := w8.heap.size) rfl _ rfl rfl (fun _ => by simp [go_sem, isAgg]) HN8.out ?_))
          go_roundw
          case rel => exact ⟨j + 1, by omega, by omega, by go_num, Lib.hid (HR6.out.below HB8.out), Lib.hid (bthen HB6.out HB8.out)⟩
          case measure => simp [intOf]; omega
        · have HBO := Lib.hid (both_bad HD.out o.i HCC.out)
          have g1 : (o.kd == 1) = false := by rw [beq_eq_false_iff_ne]; exact hk1
          have g2 : (o.kd == 2) = false := by rw [beq_eq_false_iff_ne]; exact hk2
          have g3 : (o.kd == 3) = false := by rw [beq_eq_false_iff_ne]; exact hk3
          have g4 : (o.kd == 4) = false := by rw [beq_eq_false_iff_ne]; exact hk4
          clear hk1 hk2 hk3 hk4
          go_wp2_with (first
          | (go_at_call 24; go_must (refine HBO.out.mono ?_; rintro e w5 ⟨z1, rfl, t1, hg⟩; have HG := Lib.hid hg; have HY := Lib.hid (HKEEP.out w5 t1); have y13 : w5.cell? ⟨pb, 13, none⟩ = some (.int .i64 o.i) := blk_cell HY.out 13; clear hg t1))
          | (go_at_call 25; go_must (refine HG.out.mono ?_; rintro e w6 ⟨rfl, t2, hd2⟩; have HR6 := Lib.hid (SRunsAt.step (w := w4) HC0.out hd2); have HB6 := Lib.hid (srun_touch HB4.out t2 HR4.out HS1.out); obtain ⟨k6, c6, hd6, hc6⟩ := HR6.out; obtain ⟨ls, lz, hld⟩ := both_load hd6; have HLD1 := Lib.hid (show Calls Tryz.prog 15 #[.pointer (some ⟨b.d, 0, none⟩)] w6 fun e w' => e = .returned (.tuple #[.agg #[.int .u64 ls.serial, .int .i64 ls.epoch, .int .i64 ls.view, .int .i64 ls.normal, .int .i64 ls.top, .int .i64 ls.base, .int .i64 ls.area, .int .i64 ls.start, .int .u32 ls.chain], .int .i64 lz]) ∧ Below w6.heap.size w6 w' from (hld _ (Below.refl _ _)).1); have HLD2 := Lib.hid (fun (W : World) (hb : Below w6.heap.size w6 W) => (show Calls Tryz.prog 26 #[.pointer (some ⟨b.r, 0, none⟩)] W fun e w' => e = .returned (.tuple #[.agg #[.int .u64 ls.serial, .int .i64 ls.epoch, .int .i64 ls.view, .int .i64 ls.normal, .int .i64 ls.top, .int .i64 ls.base, .int .i64 ls.area, .int .i64 ls.start, .int .u32 ls.chain], .int .i64 lz]) ∧ Below W.heap.size W w' from (hld W hb).2)); clear hd2 t2 hd6 hc6 hld))
          | (go_at_call 15; go_must (refine HLD1.out.mono ?_; rintro e w7 ⟨rfl, hb7⟩; have HN7 := Lib.hid (blk_new w7 (.cells #[.int .u64 ls.serial, .int .i64 ls.epoch, .int .i64 ls.view, .int .i64 ls.normal, .int .i64 ls.top, .int .i64 ls.base, .int .i64 ls.area, .int .i64 ls.start, .int .u32 ls.chain] 30)); have HB7 := Lib.hid (hb7.alloc hb7.size (.cells #[.int .u64 ls.serial, .int .i64 ls.epoch, .int .i64 ls.view, .int .i64 ls.normal, .int .i64 ls.top, .int .i64 ls.base, .int .i64 ls.area, .int .i64 ls.start, .int .u32 ls.chain] 30)); clear hb7))
          | (go_at_call 26; go_must (refine (HLD2.out _ HB7.out).mono ?_; rintro e w8 ⟨rfl, hb8⟩; have HN7b := Lib.hid (blk_alloc (blk_below HN7.out hb8) (.cells #[.int .u64 ls.serial, .int .i64 ls.epoch, .int .i64 ls.view, .int .i64 ls.normal, .int .i64 ls.top, .int .i64 ls.base, .int .i64 ls.area, .int .i64 ls.start, .int .u32 ls.chain] 30)); have HN8 := Lib.hid (blk_new w8 (.cells #[.int .u64 ls.serial, .int .i64 ls.epoch, .int .i64 ls.view, .int .i64 ls.normal, .int .i64 ls.top, .int .i64 ls.base, .int .i64 ls.area, .int .i64 ls.start, .int .u32 ls.chain] 30)); have HB8 := Lib.hid ((bthen HB7.out hb8).alloc (bthen HB7.out hb8).size (.cells #[.int .u64 ls.serial, .int .i64 ls.epoch, .int .i64 ls.view, .int .i64 ls.normal, .int .i64 ls.top, .int .i64 ls.base, .int .i64 ls.area, .int .i64 ls.start, .int .u32 ls.chain] 30)); clear hb8))
          | (refine wpList_load_blk rfl 30 _ rfl (b := w7.heap.size) rfl _ rfl rfl (fun _ => by simp [go_sem, isAgg]) HN7b.out ?_)
          | (refine wpList_load_blk rfl 30 _ rfl (b := w8.heap.size) rfl _ rfl rfl (fun _ => by simp [go_sem, isAgg]) HN8.out ?_))
          go_roundw
          case rel => exact ⟨j + 1, by omega, by omega, by go_num, Lib.hid (HR6.out.below HB8.out), Lib.hid (bthen HB6.out HB8.out)⟩
          case measure => simp [intOf]; omega
      · rcases (by omega : j = n ∨ (j < n ∧ j = 50)) with rfl | ⟨h1, rfl⟩
        · go_wp2_with fail
          go_ret
          exact ⟨rfl, hb.out⟩
        · go_wp2_with fail
          go_ret
          exact ⟨rfl, hb.out⟩
  · have HG := Lib.hid (show ¬ ((1 ≤ min s 4 ∧ min s 4 ≤ 65536) ∧ 1 ≤ min z 100 ∧ min z 100 ≤ 8192) by omega)
    clear hg hs hz
    go_enter Tryz.func5, Tryz.ntmps5
    go_upto_region 4 with (go_at_call 9; go_must (refine (awake_true _).mono ?_; rintro e w1 ⟨rfl, hb1⟩; have HB1 := Lib.hid hb1; clear hb1))
    generalize min s 4 = s' at HG ⊢
    generalize min z 100 = z' at HG ⊢
    go_wp2_with (first
      | (go_at_call 11; go_must (refine (New_bad _ _ _ HG.out).mono ?_; rintro e wx ⟨rfl, hwx⟩; obtain rfl := hwx.symm))
      | (go_at_call 18; go_must (refine (RNew_bad _ _ _ HG.out).mono ?_; rintro e wx ⟨rfl, hwx⟩; obtain rfl := hwx.symm)))
    go_ret
    exact ⟨rfl, HB1.out⟩
end Go.Proofs.YtaldjmhikebecaaGreat
namespace Go.Proofs.YtaldjmhikebecaaGreat
open Go.ChangeShapes Go.WideShapes Go.ChangeAt Go.RowKit
set_option linter.unusedVariables false
set_option maxRecDepth 100000
theorem super_runs_lifted (os : Os) (started : os.Started) (H : Type) (enc : TypeId × Value → H) :
    ReturnsInHanded {} Tryz.checked os 5 .any (Rows.superRunsSpec.pre6 enc Tryz.prog Tryz.f5 Rows.superRunsRow.domain false) (Rows.superRunsSpec.post enc Tryz.prog Tryz.f5 false true false false) := by
  refine returnsInHanded_of_change_sized (C := Tryz.checked) own_knob started (by kernel_rfl) Tryz.func5
    (ChangeSpec.witness6 (enc := enc) (C := Tryz.checked) false ⟨#[], #[.int .i64 0, .int .i64 0, .slice none 0 0], []⟩ 8 (by kernel_rfl) (by kernel_rfl) (by kernel_rfl) (by kernel_rfl)) ?_
  intro W base args ds gs before hval hW _ hsz _
  have hW' := hW
  obtain ⟨p, q, hA0, hV, rfl, hfz, hnd⟩ := hW
  have hA : DataW.TrodAll enc Tryz.prog W 0 (fun _ => true) true Tryz.f5.params.toList args.toList ds p := hA0
  rw [Tryz.params5] at hA hval
  obtain ⟨v0, vs0, d0, ds0, p0, q0, hargs, rfl, rfl, h0, r0⟩ := trodAll_cons hA
  obtain ⟨v1, vs1, d1, ds1, p1, q1, rfl, rfl, rfl, h1, r1⟩ := trodAll_cons r0
  obtain ⟨v2, vs2, d2, ds2, p2, q2, rfl, rfl, rfl, h2, r2⟩ := trodAll_cons r1
  obtain ⟨rfl, rfl, rfl⟩ := trodAll_nil r2
  obtain rfl : args = #[v0, v1, v2] := by cases args; simp_all
  obtain ⟨rfl, rfl⟩ := trodVars_none hV
  obtain ⟨a0, rfl, rfl, rfl, wa0⟩ := open_int Tryz.underlying3 (hval 0 3 v0 rfl rfl) h0
  obtain ⟨a1, rfl, rfl, rfl, wa1⟩ := open_int Tryz.underlying3 (hval 1 3 v1 rfl rfl) h1
  obtain ⟨A2, n2, c2, rfl, ho2⟩ := open_opsP (hval 2 47 v2 rfl rfl) h2
  have hread : ∀ t ∈ Tryz.f5.params.toList, Tryz.prog.readableRec t = true ∧ t < Tryz.prog.types.size := by
    rw [Tryz.params5]
    intro t ht
    simp only [List.mem_cons, List.not_mem_nil, or_false] at ht
    rcases ht with rfl | rfl | rfl
    · exact ⟨by kernel_rfl, of_decide_eq_true (by kernel_rfl)⟩
    · exact ⟨by kernel_rfl, of_decide_eq_true (by kernel_rfl)⟩
    · exact ⟨by kernel_rfl, of_decide_eq_true (by kernel_rfl)⟩
  have hwalk := SuperRuns_walk W a0 (wf_i64 wa0) a1 (wf_i64 wa1) A2 n2 c2 ho2
  refine hwalk.mono fun e W' ⟨he, hg⟩ => ?_
  exact ⟨_, he, post_true hW' hg rfl rfl rfl rfl (by kernel_rfl) hread⟩
theorem super_runs_holds : Rows.SuperRunsSaid :=
  OpenClaim.holds_of_wide 5 Tryz.f5 rfl rfl rfl rfl rfl rfl rfl ⟨rfl, rfl, rfl, rfl, rfl⟩ rfl rfl rfl rfl rfl (by kernel_rfl) Tryz.func5 (by kernel_rfl)
    (of_decide_eq_true (by kernel_rfl)) (by unfold Func.isWrapper; first | (rw [if_pos (by decide +kernel)]; kernel_rfl) | (rw [if_neg (by decide +kernel)]; exact ⟨rfl, rfl⟩))
    (fun os started H enc _ => super_runs_lifted os started H enc)
end Go.Proofs.YtaldjmhikebecaaGreat
