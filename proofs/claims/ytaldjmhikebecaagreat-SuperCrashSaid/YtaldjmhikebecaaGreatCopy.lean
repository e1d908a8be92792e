/- Layer 8 (sector): Copy. -/
import Derived.Test.YtaldjmhikebecaaGreatCopyA
import Derived.Test.YtaldjmhikebecaaGreatBar
import Derived.Deep.RegionHeld3
import Derived.Deep.CutRange
namespace Go.Proofs.YtaldjmhikebecaaGreat
open Go Go.RowKit
set_option maxRecDepth 100000
set_option linter.unusedVariables false
attribute [local go_sem] Oper.semAt_some
section
variable {w w' x : World} {d fb lb bb c : Nat} {k : Dsk} {X : Nat → Prop}
def MidCopy (w : World) (k : Dsk) (E : DataW Value) (cb : Nat) (y : World) : Prop := ∃ fb2 lb2 bb2 sp, y.heap[w.heap.size]? = some (.cells (({ k with sp := sp } : Dsk).cells fb2 lb2 bb2) 80 (0, 0)) ∧ k.n * k.size + sp ≤ maxLen ∧
  y.heap[fb2]? = some (.cells (bytes (k.fast ++ List.replicate sp 0)).toArray 5 (0, 0)) ∧ y.ownsMap Tryz.prog 3 rawR lb2 0 (.map []) ∧ y.ownsMap (H := Value) Tryz.prog 3 unitElem bb2 cb E ∧ lb2 ≠ bb2 ∧ w.heap.size < fb2 ∧ w.heap.size < lb2 ∧ w.heap.size < bb2 ∧ Below w.heap.size w y
theorem bw_alloc (h : Below w.heap.size w x) (o : Obj) : Below w.heap.size w (x.alloc o) := h.alloc h.size o
theorem bw_set (h : Below w.heap.size w x) (i : Nat) (v : Value) : Below w.heap.size w (x.setCell ⟨w.heap.size, i, none⟩ v) := h.setCell (Nat.le_refl _) v
theorem bw_drew (h : Below w.heap.size w x) : Below w.heap.size w x.drew := h.drew
theorem bs_touch {S : Nat → Prop} {A : Option Addr} {n c : Nat} {l : List UInt8} (hB : Bs w A n c l) (t : Touch S w w') (hs : ∀ i, S i → NoByte w i) : Bs w' A n c l := by
  refine ⟨hB.1, hB.2.1, hB.2.2.1, fun h0 => ?_⟩
  obtain ⟨ad, e, hc⟩ := hB.2.2.2 h0
  refine ⟨ad, e, fun j u hu => ?_⟩
  have hcell := hc j u hu
  refine t.cell hcell ?_
  rw [block_add]
  intro hS
  obtain ⟨x, hx⟩ : ∃ x, u = .int .u8 x := by
    have := List.mem_of_getElem? hu
    simp only [bytes, List.mem_map] at this
    obtain ⟨y, _, rfl⟩ := this
    exact ⟨_, rfl⟩
  exact hs _ hS (ad.add j) (block_add _ _) x (hx ▸ hcell)
/-- A round of the copying. -/
theorem copy_round {wc wr w1 w3 w4 : World} {D D2 : DataW Value} {fb2 lb2 c2 cnt1 i c3 : Nat} {left : Lit → Bool} {A2 : Option Addr} {l : List UInt8} (hi : i < k.n) (hlo : k.loose i = some l) (hnr : NoByte wr wc.heap.size) (hg1 : wr.grownBy w1 (some wc.heap.size)) (hrg1 : w1.ranges Tryz.prog 3 rawR lb wc.heap.size c D (fun z => left z && !z.sameKey (key i)) cnt1)
    (hm2 : wr.ownsMap Tryz.prog 3 rawR lb2 c2 D2) (hl2 : LooseAt (fun b => b = w.heap.size ∨ b = fb2 ∨ b < w.heap.size) wr (k.part left) D2) (ht : Touch (· = lb2) wc wr) (hb3 : Below w1.heap.size w1 w3) (ho3 : w3.ownsRow w1.heap.size 5 1 (.slice A2 k.size c3) k.size (bytes l)) (hg4 : w3.grownBy w4 (some lb2))
    (hlt : lb < w.heap.size ∧ w.heap.size < lb2 ∧ lb2 < wc.heap.size ∧ fb2 < wc.heap.size) (hs1 : 1 ≤ k.size) :
    w4.ranges Tryz.prog 3 rawR lb wc.heap.size c D (fun z => left z && !z.sameKey (key i)) cnt1 ∧ LooseAt (fun b => b = w.heap.size ∨ b = fb2 ∨ b < w.heap.size) w4 (k.part (fun z => left z && !z.sameKey (key i))) (D2.put (key i) (.held (.slice A2 k.size c3))) ∧ Touch (· = lb2) wc w4 := by
  have t13 : Touch (· = lb2) w1 w3 := Touch.of_below hb3
  have t14 : Touch (· = lb2) w1 w4 := t13.trans (Touch.of_grown hg4 (fun j hj => (Option.some.inj hj).symm))
  have hm3 : w3.ownsMap Tryz.prog 3 rawR lb2 c2 D2 := own_map_block (own_map_block hm2 (hg1.block _ hm2.lt (by simp; omega))) (hb3.block _ (Nat.lt_of_lt_of_le hm2.lt hg1.size))
  have hno := map_nobyte hm3
  refine ⟨ranges_touch hrg1 t14 (by omega) (by omega), looseAt_part hm2 hl2 hi hlo (fun A n c l hB _ => ((hB.grown_map hg1 hnr).below hb3).grown_map hg4 hno) ((Bs.of_own ho3).grown_map hg4 hno) (fun ad e => ?_), (ht.trans_new (Touch.of_grown (S := (· = wc.heap.size)) hg1 (fun j hj => (Option.some.inj hj).symm)) (fun j hj => .inr (by omega))).trans t14⟩
  have hbase := (own_base ho3 ad.block (by rw [e]; rfl)).1
  have h1 := ht.size
  have h2 := hg1.size
  rintro (h3 | h3 | h3) <;> omega
theorem touch_set3 (a : World) (b i j l : Nat) (u v x : Value) : Touch (· = b) a (((a.setCell ⟨b, i, none⟩ u).setCell ⟨b, j, none⟩ v).setCell ⟨b, l, none⟩ x) :=
  ((Touch.of_set (S := (· = b)) a (p := ⟨b, i, none⟩) u rfl).trans (Touch.of_set (S := (· = b)) _ (p := ⟨b, j, none⟩) v rfl)).trans (Touch.of_set (S := (· = b)) _ (p := ⟨b, l, none⟩) x rfl)
theorem mid_in {w2 : World} {E : DataW Value} {cb g sp lb2 bb2 : Nat} (hk : w2.heap[w.heap.size]? = some (.cells (k.cells fb lb bb) 80 (0, 0))) (hsp : k.n * k.size + sp ≤ maxLen) (hg : w.heap.size < g) (hcl : w2.heap[g]? = some (.cells (bytes (k.fast ++ List.replicate sp 0)).toArray 5 (0, 0)))
    (hm : w2.ownsMap (H := Value) Tryz.prog 3 unitElem bb2 cb E) (hbb : w.heap.size < bb2) (hl : w2.ownsMap Tryz.prog 3 rawR lb2 0 (.map [])) (hlb : w.heap.size < lb2) (hne : lb2 ≠ bb2) (hb : Below w.heap.size w w2) :
    MidCopy w k E cb (((w2.setCell ⟨w.heap.size, 2, none⟩ (.slice (some ⟨g, 0, none⟩) (k.n * k.size) (k.n * k.size + sp))).setCell ⟨w.heap.size, 4, none⟩ (.map (some bb2))).setCell ⟨w.heap.size, 3, none⟩ (.map (some lb2))) := by
  have t : Touch (· = w.heap.size) w2 (((w2.setCell ⟨w.heap.size, 2, none⟩ (.slice (some ⟨g, 0, none⟩) (k.n * k.size) (k.n * k.size + sp))).setCell ⟨w.heap.size, 4, none⟩ (.map (some bb2))).setCell ⟨w.heap.size, 3, none⟩ (.map (some lb2))) := touch_set3 _ _ _ _ _ _ _ _
  refine ⟨g, lb2, bb2, sp, blk_set (blk_set (blk_set hk 2 _) 4 _) 3 _, hsp, t.blk hcl (by omega), own_map_block hl (t.block _ hl.lt (by omega)), own_map_block hm (t.block _ hm.lt (by omega)), hne, hg, hlb, hbb, bw_set (bw_set (bw_set hb _ _) _ _) _ _⟩
theorem mid_last {w2 : World} {E : DataW Value} {cb g sp bb2 : Nat} (hk : w2.heap[w.heap.size]? = some (.cells (k.cells fb lb bb) 80 (0, 0))) (hsp : k.n * k.size + sp ≤ maxLen) (hg : w.heap.size < g) (hcl : w2.heap[g]? = some (.cells (bytes (k.fast ++ List.replicate sp 0)).toArray 5 (0, 0)))
    (hm : w2.ownsMap (H := Value) Tryz.prog 3 unitElem bb2 cb E) (hbb : w.heap.size < bb2) (hb : Below w.heap.size w w2) :
    MidCopy w k E cb ((((w2.setCell ⟨w.heap.size, 2, none⟩ (.slice (some ⟨g, 0, none⟩) (k.n * k.size) (k.n * k.size + sp))).setCell ⟨w.heap.size, 4, none⟩ (.map (some bb2))).setCell ⟨w.heap.size, 3, none⟩ (.map (some w2.heap.size))).alloc (.map #[] 0)) := by
  have t : Touch (· = w.heap.size) w2 (((w2.setCell ⟨w.heap.size, 2, none⟩ (.slice (some ⟨g, 0, none⟩) (k.n * k.size) (k.n * k.size + sp))).setCell ⟨w.heap.size, 4, none⟩ (.map (some bb2))).setCell ⟨w.heap.size, 3, none⟩ (.map (some w2.heap.size))) := touch_set3 _ _ _ _ _ _ _ _
  have hlt := blk_lt hk
  have hml := hm.lt
  have hk3 := blk_set (blk_set (blk_set hk 2 (.slice (some ⟨g, 0, none⟩) (k.n * k.size) (k.n * k.size + sp))) 4 (.map (some bb2))) 3 (.map (some w2.heap.size))
  have hsz : (((w2.setCell ⟨w.heap.size, 2, none⟩ (.slice (some ⟨g, 0, none⟩) (k.n * k.size) (k.n * k.size + sp))).setCell ⟨w.heap.size, 4, none⟩ (.map (some bb2))).setCell ⟨w.heap.size, 3, none⟩ (.map (some w2.heap.size))).heap.size = w2.heap.size := by simp [World.setCell]
  generalize ((w2.setCell ⟨w.heap.size, 2, none⟩ (.slice (some ⟨g, 0, none⟩) (k.n * k.size) (k.n * k.size + sp))).setCell ⟨w.heap.size, 4, none⟩ (.map (some bb2))).setCell ⟨w.heap.size, 3, none⟩ (.map (some w2.heap.size)) = y at t hk3 hsz ⊢
  have hy := World.ownsMap_made (H := Value) y Tryz.prog 3 rawR
  rw [hsz] at hy
  exact ⟨g, w2.heap.size, bb2, sp, blk_alloc hk3 _, hsp, blk_alloc (t.blk hcl (by omega)) _, hy, (own_map_block hm (t.block _ hml (by omega))).alloc _, by omega, hg, hlt, hbb, bw_alloc (Touch.below hb t (Nat.le_refl _) (fun i hi => by omega)) _⟩
theorem copied_disk {wc wr : World} {E D2 : DataW Value} {cb fb2 lb2 bb2 sp c2 : Nat} {left : Lit → Bool} (h : OnDisk X w d fb lb bb c k) (hcb : cb ≤ c) (hbb : ∀ i, i < k.n → Maps.has E (key i) = k.bad i) (hk : wc.heap[w.heap.size]? = some (.cells (({ k with sp := sp } : Dsk).cells fb2 lb2 bb2) 80 (0, 0))) (hsp : k.n * k.size + sp ≤ maxLen)
    (hfb : wc.heap[fb2]? = some (.cells (bytes (k.fast ++ List.replicate sp 0)).toArray 5 (0, 0))) (hm : wc.ownsMap (H := Value) Tryz.prog 3 unitElem bb2 cb E) (hne : lb2 ≠ bb2) (hnf : fb2 ≠ lb2) (hg : w.heap.size < fb2 ∧ w.heap.size < lb2 ∧ w.heap.size < bb2) (hb : Below w.heap.size w wc)
    (ht : Touch (· = lb2) wc wr) (hm2 : wr.ownsMap Tryz.prog 3 rawR lb2 c2 D2) (hc2 : c2 ≤ c) (hl2 : LooseAt (fun b => b = w.heap.size ∨ b = fb2 ∨ b < w.heap.size) wr (k.part left) D2) (hl : ∀ kl, left kl = false) :
    OnDisk (fun b => b = w.heap.size ∨ b = fb2 ∨ b < w.heap.size) wr w.heap.size fb2 lb2 bb2 c { k with sp := sp } ∧ Below w.heap.size w wr := by
  rw [part_end hl] at hl2
  have h1 := ht.blk hk (by omega)
  have h2 := ht.blk hfb hnf
  refine ⟨{ blk := h1, fst := h2, spm := hsp, len := h.len, n1 := h.n1, n2 := h.n2, s1 := h.s1, s2 := h.s2, lf := h.lf, cnt := h.cnt, ne := hne, xd := .inl rfl, xf := .inr (.inl rfl), xlt := fun b hb => ?_, loo := ⟨D2, hm2.mono hc2, hl2.at_, hl2.keys⟩, bd := ⟨E, cb, own_map_block hm (ht.block _ hm.lt (Ne.symm hne)), hcb, hbb⟩ }, Touch.below hb ht (Nat.le_refl _) (fun i hi => by omega)⟩
  have := blk_lt h1
  have := blk_lt h2
  omega
theorem OnDisk.fastB (h : OnDisk X w d fb lb bb c k) : Bs w (some ⟨fb, 0, none⟩) (k.n * k.size) (k.n * k.size + k.sp) k.fast := by
  refine ⟨by rw [bytes_length, h.len, Nat.mul_one], by omega, h.spm, fun _ => ⟨_, rfl, fun j u hu => ?_⟩⟩
  have e : (⟨fb, 0, none⟩ : Addr).add j = ⟨fb, j, none⟩ := by unfold Addr.add; split <;> simp_all
  have hj := (List.getElem?_eq_some_iff.1 hu).1
  rw [e, blk_cell h.fst, bytes_append, List.getElem?_toArray, List.getElem?_append_left hj]
  exact hu
set_option maxHeartbeats 4000000 in
theorem Copy_ok (h : OnDisk X w d fb lb bb c k) : Calls Tryz.prog 14 #[.pointer (some ⟨d, 0, none⟩)] w fun e w' =>
    ∃ d2 fb2 lb2 bb2 sp, e = .returned (.pointer (some ⟨d2, 0, none⟩)) ∧ OnDisk (fun b => b = d2 ∨ b = fb2 ∨ b < w.heap.size) w' d2 fb2 lb2 bb2 c { k with sp := sp } ∧ (w.heap.size ≤ d2 ∧ w.heap.size ≤ fb2 ∧ w.heap.size ≤ lb2 ∧ w.heap.size ≤ bb2) ∧ Below w.heap.size w w' := by
  have HMADE := Lib.hid (disk_made h)
  have HD := Lib.hid h
  obtain ⟨E, cb, hme, hcb, hbb⟩ := h.bd
  have HE := Lib.hid hme
  have HCB := Lib.hid (And.intro hcb hbb)
  have hdl := h.lts.1
  have c0 : w.cell? ⟨d, 0, none⟩ = some (.int .i64 (k.n : Int)) := h.cell 0
  have c1 : w.cell? ⟨d, 1, none⟩ = some (.int .i64 (k.size : Int)) := h.cell 1
  have c2 : w.cell? ⟨d, 2, none⟩ = some (.slice (some ⟨fb, 0, none⟩) (k.n * k.size) (k.n * k.size + k.sp)) := h.cell 2
  have c3 : w.cell? ⟨d, 3, none⟩ = some (.map (some lb)) := h.cell 3
  have c4 : w.cell? ⟨d, 4, none⟩ = some (.map (some bb)) := h.cell 4
  have c5 : w.cell? ⟨d, 5, none⟩ = some (.bool k.set) := h.cell 5
  have c6 : w.cell? ⟨d, 6, none⟩ = some (.int .i64 (k.left : Int)) := h.cell 6
  have hmul : k.n * k.size ≤ 65536 * 8192 := Nat.mul_le_mul h.n2 h.s2
  have hpos : 0 < k.n * k.size := Nat.mul_pos h.n1 h.s1
  have HFB := Lib.hid (fun (x : World) (hb : Below w.heap.size w x) => h.fastB.below hb)
  have KE := Lib.hid (fun (W : World) (hb : Below w.heap.size w W) => (⟨cell_keep hb c2, cell_keep hb c4⟩ : W.cell? ⟨d, 2, none⟩ = some (.slice (some ⟨fb, 0, none⟩) (k.n * k.size) (k.n * k.size + k.sp)) ∧ W.cell? ⟨d, 4, none⟩ = some (.map (some bb))))
  have HME := Lib.hid (fun (x : World) (hb : Below w.heap.size w x) => own_map_block (w' := x) HE.out (hb.block bb HE.out.lt))
  have HFZ := Lib.hid (fun (x : World) (hb : x.heap[w.heap.size]? = some (.cells (k.cells fb lb bb) 80 (0, 0))) => (⟨blk_cell hb 2, blk_cell hb 3, blk_cell hb 4, blk_frozen hb 2, blk_frozen hb 3, blk_frozen hb 4⟩ : x.cell? ⟨w.heap.size, 2, none⟩ = some (.slice (some ⟨fb, 0, none⟩) (k.n * k.size) (k.n * k.size + k.sp)) ∧ x.cell? ⟨w.heap.size, 3, none⟩ = some (.map (some lb)) ∧ x.cell? ⟨w.heap.size, 4, none⟩ = some (.map (some bb)) ∧ x.frozen? ⟨w.heap.size, 2, none⟩ = false ∧ x.frozen? ⟨w.heap.size, 3, none⟩ = false ∧ x.frozen? ⟨w.heap.size, 4, none⟩ = false))
  have hmm := @run_makeMap Tryz.prog
  clear h hme hcb hbb
  go_enter Tryz.func14, Tryz.ntmps14
  go_upto_region 4 with (first
    | (go_at_call 40; go_must (refine HMADE.out.mono ?_; rintro e wx ⟨rfl, hwx⟩; obtain rfl := hwx.symm)))
  have HB0 := Lib.hid (bw_alloc (Below.refl _ w) (.cells #[.int .i64 (k.n : Int), .int .i64 (k.size : Int), .slice (some ⟨fb, 0, none⟩) (k.n * k.size) (k.n * k.size + k.sp), .map (some lb), .map (some bb), .bool k.set, .int .i64 (k.left : Int)] 80))
  have HK0 := Lib.hid (show (w.alloc (.cells #[.int .i64 (k.n : Int), .int .i64 (k.size : Int), .slice (some ⟨fb, 0, none⟩) (k.n * k.size) (k.n * k.size + k.sp), .map (some lb), .map (some bb), .bool k.set, .int .i64 (k.left : Int)] 80)).heap[w.heap.size]? = some (.cells (k.cells fb lb bb) 80 (0, 0)) from blk_new w _)
  have hsz0 : (w.alloc (.cells #[.int .i64 (k.n : Int), .int .i64 (k.size : Int), .slice (some ⟨fb, 0, none⟩) (k.n * k.size) (k.n * k.size + k.sp), .map (some lb), .map (some bb), .bool k.set, .int .i64 (k.left : Int)] 80)).heap.size = w.heap.size + 1 := by simp
  generalize w.alloc (.cells #[.int .i64 (k.n : Int), .int .i64 (k.size : Int), .slice (some ⟨fb, 0, none⟩) (k.n * k.size) (k.n * k.size + k.sp), .map (some lb), .map (some bb), .bool k.set, .int .i64 (k.left : Int)] 80) = W0 at HB0 HK0 hsz0 ⊢
  have HSZ0 := Lib.hid hsz0
  have hS0 := KE.out W0.drew (bw_drew HB0.out)
  have hlt0 : w.heap.size < W0.heap.size := by omega
  obtain ⟨z2, z3, z4, f2, f3, f4⟩ := HFZ.out _ HK0.out
  clear hsz0 c0 c1 c2 c3 c4 c5 c6
  go_cut [3] from 12 to 25 (fun s wx => s = .pointer (some ⟨w.heap.size, 0, none⟩) ∧ MidCopy w k E cb wx)
  case first =>
    go_region_held3 (fun w' => w'.cell? ⟨d, 2, none⟩ = some (.slice (some ⟨fb, 0, none⟩) (k.n * k.size) (k.n * k.size + k.sp)) ∧ w'.cell? ⟨d, 4, none⟩ = some (.map (some bb))) (first | assumption | (refine KE.out _ ?_; repeat first | exact HB2.out | exact HB1.out | exact HB0.out | refine bw_set ?_ _ _ | refine bw_alloc ?_ _ | refine bw_drew ?_))
      (first
        | (go_at_call 43; refine (BClone_row _ _ _ k.fast _ (HFB.out _ (by first | exact bw_drew HB0.out | exact bw_drew (bw_alloc HB0.out _) | exact bw_alloc (bw_drew HB0.out) _)) hpos (by omega)).mono ?_; rintro e w1 ⟨g, sp, rfl, hsp, hg, hcl, hb1⟩; have HSP := Lib.hid hsp; have HG := Lib.hid hg; have HCL := Lib.hid hcl; have HT1 := Lib.hid hb1; have HB1 := Lib.hid (show Below w.heap.size w w1 from bthen (by first | exact bw_drew HB0.out | exact bw_drew (bw_alloc HB0.out _) | exact bw_alloc (bw_drew HB0.out) _) hb1); have HK1 := Lib.hid (show w1.heap[w.heap.size]? = some (.cells (k.cells fb lb bb) 80 (0, 0)) from blk_below (by first | exact HK0.out | exact blk_alloc HK0.out _) hb1); have hS1 := KE.out _ HB1.out; obtain ⟨z2, z3, z4, f2, f3, f4⟩ := HFZ.out _ HK1.out; have hlt1 := blk_lt HK1.out; clear hsp hg hcl hb1)
        | (go_at_call 44; refine (AnyW.maps_Clone_owns Tryz.cloneA 3 unitElem bb cb E _ (HME.out _ (by first | exact HB1.out | exact bw_alloc HB1.out _))).mono ?_; rintro e w2 ⟨rfl, hm2, _, hb2⟩; have HM2 := Lib.hid hm2; have HT2 := Lib.hid hb2; have HB2 := Lib.hid (show Below w.heap.size w w2 from bthen (by first | exact HB1.out | exact bw_alloc HB1.out _) hb2); have HK2 := Lib.hid (show w2.heap[w.heap.size]? = some (.cells (k.cells fb lb bb) 80 (0, 0)) from blk_below (by first | exact HK1.out | exact blk_alloc HK1.out _) hb2); have hS2 := KE.out _ HB2.out; obtain ⟨z2, z3, z4, f2, f3, f4⟩ := HFZ.out _ HK2.out; have hlt2 := blk_lt HK2.out; clear hm2 hb2))
    all_goals
      go_wp2_with fail
      go_meet
      have q1 := HSZ0.out
      have q2 := HT1.out.size
      have q3 := HG.out
      have q4 := HT2.out.size
      first
        | exact ⟨rfl, mid_last HK2.out HSP.out (by have : W0.heap.size ≤ g := q3; omega) (blk_below HCL.out HT2.out) HM2.out (by have : W0.heap.size ≤ w1.heap.size := q2; omega) HB2.out⟩
        | exact ⟨rfl, mid_in HK2.out HSP.out (by have : W0.heap.size ≤ g := q3; omega) (blk_below (blk_alloc HCL.out _) HT2.out) (by simpa using HM2.out) (by have : W0.heap.size ≤ w1.heap.size := q2; omega) (own_map_block (World.ownsMap_made (H := Value) w1 Tryz.prog 3 rawR) (HT2.out.block _ (by simp))) (by have : W0.heap.size ≤ w1.heap.size := q2; omega) (by omega) HB2.out⟩
        | exact ⟨rfl, mid_in HK2.out HSP.out (by simp at q3; omega) (blk_below HCL.out HT2.out) HM2.out (by simp at q2; omega) (own_map_block (own_map_block (w' := w1) (World.ownsMap_made (H := Value) W0 Tryz.prog 3 rawR) (HT1.out.block _ (by simp))) (HT2.out.block _ (by simp at q2; omega))) (by omega) (by simp at q2; omega) HB2.out⟩
        | (go_show; fail)
  case rest =>
    obtain ⟨rfl, fb2, lb2, bb2, sp, hk, hsp, hfb, hl, hm, hne, g1, g2, g3, hb⟩ := hcut
    obtain ⟨D, hml, hla⟩ := HD.out.loo
    have y3 : wc.cell? ⟨d, 3, none⟩ = some (.map (some lb)) := cell_keep hb (HD.out.cell 3)
    have HM := Lib.hid (own_map_block (w' := wc) hml (hb.block lb hml.lt))
    have HL := Lib.hid (show LooseAt X wc k D from hla.kept fun A n c l hB _ => hB.below hb)
    have HLT := Lib.hid (show lb < w.heap.size from hml.lt)
    have HFN := Lib.hid (show fb2 ≠ lb2 from fun e => by obtain ⟨es, cl, ho⟩ := own_map_obj hl; rw [← e, hfb] at ho; cases ho)
    have HEND := Lib.hid (fun (wr : World) (c2 : Nat) (D2 : DataW Value) (left : Lit → Bool) ht hm2 hc2 hl2 hl0 => copied_disk (wr := wr) (c2 := c2) (D2 := D2) (left := left) HD.out HCB.out.1 HCB.out.2 hk hsp hfb hm hne HFN.out ⟨g1, g2, g3⟩ hb ht hm2 hc2 hl2 hl0)
    have HKC := Lib.hid hk
    have HM2 := Lib.hid hl
    have HNB := Lib.hid (map_nobyte hl)
    have HLL := Lib.hid (show lb2 < wc.heap.size from hl.lt)
    have HFL := Lib.hid (show fb2 < wc.heap.size from blk_lt hfb)
    have HBC := Lib.hid hb
    have hn2 := HD.out.n2
    have hs2 := HD.out.s2
    have HCN := Lib.hid HD.out.cnt
    have hgs := Lib.hid (show w.heap.size < fb2 ∧ w.heap.size < lb2 ∧ w.heap.size < bb2 from ⟨g1, g2, g3⟩)
    clear hk hsp hfb hl hm hne g1 g2 g3 hb hml hla KE HME HFZ hS0 hlt0 z2 z3 z4 f2 f3 f4 HFB
    go_wp2_with (at_range; go_must (refine wpList_range_own _ rfl _ 77 rfl 3 51 int_law Tryz.underlying77 rawR lb c D rfl HM.out ?_; intro w0 hrg0 hg0 hs0; have HRG0 := Lib.hid hrg0; have HG0 := Lib.hid hg0; clear hrg0 hg0))
    go_frame
    go_loopw [4] (fun _ wr => ∃ (left : Lit → Bool) (cnt c2 : Nat) (D2 : DataW Value), Hid (wr.ranges Tryz.prog 3 rawR lb wc.heap.size c D left cnt) ∧ Hid (∀ kl, left kl = true → Maps.has D kl = true) ∧ Hid (c2 + cnt ≤ c) ∧ Hid (wr.ownsMap Tryz.prog 3 rawR lb2 c2 D2) ∧ Hid (LooseAt (fun b => b = w.heap.size ∨ b = fb2 ∨ b < w.heap.size) wr (k.part left) D2) ∧ Hid (Touch (· = lb2) wc wr))
      (fun _ wr => wr.rangeLeft lb wc.heap.size)
    case atStart => exact ⟨_, _, 0, _, HRG0, Lib.hid (fun _ h => h), Lib.hid (by have := own_size HM.out; omega), Lib.hid (own_map_block HM2.out (HG0.out.block _ HM2.out.lt (by simp))), Lib.hid (looseAt_start HL.out (fun kl => rfl)), Lib.hid (Touch.of_grown HG0.out (fun _ h => by cases h))⟩
    case round =>
      obtain ⟨left, cnt, c2, D2, hrg, hlf, hcc, hm2, hl2, ht⟩ := hrel
      go_wp2_with (at_next; go_must (refine wpList_next_ranges _ rfl _ rfl 3 int_law rawR (Value.int .i64) id (fun key kl hkey => by obtain ⟨x, rfl, _⟩ := Maps.keyOf_int_inv Tryz.underlying3 hkey; exact ⟨x, rfl⟩) (fun v y _ => ⟨v, rfl⟩) lb wc.heap.size c D left cnt rfl hrg.out ?_ ?_))
      · intro hc0 hl0
        have HL0 := Lib.hid hl0
        clear hc0 hl0
        go_wp2
        go_ret
        have hr := HEND.out wr c2 D2 left ht.out hm2.out (by have := hcc.out; omega) hl2.out HL0.out
        exact ⟨w.heap.size, fb2, lb2, bb2, sp, rfl, hr.1, ⟨Nat.le_refl _, by have := hgs.out; omega, by have := hgs.out; omega, by have := hgs.out; omega⟩, hr.2⟩
      · intro x cc kl y ys w1 cnt1 hkey hlk hv hat hrg1 hlt hg1 hs1 hen
        obtain ⟨i, hi, hki⟩ := HL.out.keys kl (hlf.out kl hlk)
        subst hki
        obtain ⟨x', e1, e2, _⟩ := Maps.keyOf_int_inv Tryz.underlying3 hkey
        injection e1 with _ e1
        have hx : x = (i : Int) := by
          rw [e1]
          simp only [key, Lit.int.injEq, true_and] at e2
          exact e2.symm
        subst hx
        clear e1 e2
        have hli := HL.out.at_ i hi
        cases hlo : k.loose i with
        | none =>
          rw [hlo] at hli
          have := hlf.out _ hlk
          rw [hli] at this
          cases this
        | some l =>
          rw [hlo] at hli
          obtain ⟨_, A, c', hat', hB, hA⟩ := hli
          have hcv : cc = .slice A k.size c' := by
            have h1 := (hat (.held (.slice none 0 0))).symm.trans (hat' (.held (.slice none 0 0)))
            simp only [rawR, Option.some.injEq, Prod.mk.injEq] at hv
            rw [← hv.1] at h1
            injection h1
          subst hcv
          have hnb := ranges_nobyte hrg.out
          have hB1 : Bs w1 A k.size c' l := (bs_touch hB ht.out (fun j hj => by subst hj; exact HNB.out)).grown_map hg1 hnb
          have hs1' := HD.out.s1
          have r3 : w1.drew.cell? ⟨w.heap.size, 3, none⟩ = some (.map (some lb2)) := hg1.cell (ht.out.cell (blk_cell HKC.out 3) (by have := hgs.out; show ¬ w.heap.size = lb2; omega)) (by have h1 := HLL.out; have h2 := hgs.out; simp; omega)
          have HBC1 := Lib.hid (BClone_any A k.size c' l w1.drew hB1 (by omega))
          have HM1 := Lib.hid (own_map_block (w' := w1) hm2.out (hg1.block _ hm2.out.lt (by have := HLL.out; simp; omega)))
          have HRND := Lib.hid (fun (w3 w4 : World) (A2 : Option Addr) (c3 : Nat) hb3 ho3 hg4 => copy_round (w := w) (w3 := w3) (w4 := w4) (A2 := A2) (c3 := c3) hi hlo hnb hg1 hrg1 hm2.out hl2.out ht.out hb3 ho3 hg4 ⟨HLT.out, hgs.out.2.1, HLL.out, HFL.out⟩ HD.out.s1)
          have HKEY := Lib.hid hkey
          have HLTC := Lib.hid hlt
          have HCN1 := Lib.hid (show c2 < maxLen by have := hcc.out; have := HCN.out; unfold maxLen; omega)
          have HNE := Lib.hid (show ¬ w.heap.size = lb2 by have := hgs.out; omega)
          clear hB1 hB hA hnb hrg1 hlt hg1 hs1 hs1' hkey hlk hv hat hat' hlo hi
          go_wp2
          go_region_held3 (fun w' => w'.cell? ⟨w.heap.size, 3, none⟩ = some (.map (some lb2))) (first | assumption)
            (first
              | (go_at_call 43; refine HBC1.out.mono ?_; rintro e w3 ⟨A2, c3, rfl, ho3, hb3⟩; have hS3 := cell_keep hb3 r3; have HB3 := Lib.hid (show Below w1.heap.size w1 w3 from (Below.refl _ w1).drew.trans hb3); obtain ⟨w4, hrun, ho4, hg4⟩ := (own_map_block HM1.out (HB3.out.block lb2 HM1.out.lt)).update int_law Tryz.underlying77 HCN1.out HKEY.out (show rawR (.slice A2 k.size c3) = some (.held (.slice A2 k.size c3), []) from rfl); have hS4 := hg4.cell hS3 (by have := HNE.out; simp; omega); have HO3 := Lib.hid ho3; have HO4 := Lib.hid ho4; have HG4 := Lib.hid hg4; clear ho3 ho4 hg4 hb3))
          go_roundw
          case rel =>
            have hr := HRND.out w3 w4 A2 c3 HB3.out HO3.out HG4.out
            (repeat apply Exists.intro)
            exact ⟨⟨_, cnt1, c2 + 1, _, Lib.hid hr.1, Lib.hid (fun kl h => hlf.out kl (by simp only [Bool.and_eq_true] at h; exact h.1)), Lib.hid (by have := hcc.out; have := HLTC.out; omega), HO4, Lib.hid hr.2.1, Lib.hid hr.2.2⟩, rfl⟩
          case measure =>
            have hr := HRND.out w3 w4 A2 c3 HB3.out HO3.out HG4.out
            rw [hr.1.left_eq, hrg.out.left_eq]
            exact HLTC.out
end
end Go.Proofs.YtaldjmhikebecaaGreat
