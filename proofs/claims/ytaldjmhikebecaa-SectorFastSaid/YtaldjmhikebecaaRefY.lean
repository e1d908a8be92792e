/- The reference of layer 8: Copy; a disk among other foreign blocks. -/
import Derived.Test.YtaldjmhikebecaaRefN
import Derived.Test.YtaldjmhikebecaaCopyA
import Derived.Deep.RegionHeld3
import Derived.Deep.RegionLaw
namespace Go.Proofs.Ytaldjmhikebecaa
open Go Go.RowKit
set_option maxRecDepth 100000
set_option linter.unusedVariables false
attribute [local go_sem] Oper.semAt_some
section
variable {w w' w0 : World} {d fb lb bb c r L cap : Nat} {k : Dsk} {X : Nat → Prop}
theorem bs_lt {A : Option Addr} {n c : Nat} {l : List UInt8} (h : Bs w A n c l) (hn : 0 < n) : ∀ ad, A = some ad → ad.block < w.heap.size := by
  intro ad e
  obtain ⟨ad', e', hc⟩ := h.at_ (k := 0) hn
  rw [e] at e'
  cases e'
  have := World.block_lt_of_cell? w _ hc
  rwa [block_add] at this
/-- Other blocks are foreign: some of the old ones, and new ones. -/
theorem OnDisk.foreign (h : OnDisk X w0 d fb lb bb c k) (hb : Below w0.heap.size w0 w) {Y : Nat → Prop} (hd : Y d) (hf : Y fb) (hlt : ∀ b, Y b → b < w.heap.size) (hY : ∀ b, Y b → X b ∨ w0.heap.size ≤ b) : OnDisk Y w d fb lb bb c k := by
  obtain ⟨D, h1, h2⟩ := h.loo
  have h' := h.below hb
  refine { h' with xd := hd, xf := hf, xlt := hlt, loo := ⟨D, own_map_block h1 (hb.block _ h1.lt), ⟨fun i hi => ?_, h2.keys⟩⟩ }
  have := h2.at_ i hi
  split at this
  · exact this
  · obtain ⟨g1, A, c', g2, g3, g4⟩ := this
    refine ⟨g1, A, c', g2, g3.below hb, fun ad e hy => ?_⟩
    rcases hY _ hy with hx | hx
    · exact g4 ad e hx
    · have := bs_lt g3 (by have := h.s1; omega) ad e
      omega
theorem RAt.foreign {i : Nat} (h : RAt X w0 L k i) (hs : 1 ≤ k.size) (hb : Below w0.heap.size w0 w) {L2 : Nat} (hc : ∀ q, q < 4 → w.cell? ⟨L2, i * 4 + q, none⟩ = w0.cell? ⟨L, i * 4 + q, none⟩) {Y : Nat → Prop} (hY : ∀ b, Y b → X b ∨ w0.heap.size ≤ b) : RAt Y w L2 k i := by
  obtain ⟨A, c, h1, h2, h3⟩ := h.f
  have far : ∀ (A : Option Addr) (c : Nat) (l : List UInt8), Bs w0 A k.size c l → (∀ ad, A = some ad → ¬ X ad.block) → ∀ ad, A = some ad → ¬ Y ad.block := fun A c l hB hX ad e hy => by
    rcases hY _ hy with hx | hx
    · exact hX ad e hx
    · have := bs_lt hB (by omega) ad e
      omega
  refine ⟨⟨A, c, (hc 0 (by omega)).trans h1, h2.below hb, far _ _ _ h2 h3⟩, (hc 1 (by omega)).trans h.l, ?_, (hc 3 (by omega)).trans h.b⟩
  have := h.nw
  split at this
  · exact (hc 2 (by omega)).trans this
  · obtain ⟨A, c, h1, h2, h3⟩ := this
    exact ⟨A, c, (hc 2 (by omega)).trans h1, h2.below hb, far _ _ _ h2 h3⟩
theorem OnRef.foreign (h : OnRef X w0 r L cap k) (hb : Below w0.heap.size w0 w) {Y : Nat → Prop} (hr : Y r) (hL : Y L) (hlt : ∀ b, Y b → b < w.heap.size) (hY : ∀ b, Y b → X b ∨ w0.heap.size ≤ b) : OnRef Y w r L cap k := by
  have h' := h.below hb
  obtain ⟨cur, hrow, hcs⟩ := h.row
  refine { h' with xr := hr, xL := hL, xlt := hlt, at_ := fun i hi => (h.at_ i hi).foreign h.s1 hb (fun q hq => ?_) hY }
  exact World.cell?_of_block (a := ⟨L, i * 4 + q, none⟩) (hb.block L (blk_lt hrow))
/-- What room the program's disk has is nothing to the reference. -/
theorem RAt.sp {i : Nat} (h : RAt X w L k i) (s : Nat) : RAt X w L { k with sp := s } i := ⟨h.f, h.l, h.nw, h.b⟩
theorem OnRef.sp (h : OnRef X w r L cap k) (s : Nat) : OnRef X w r L cap { k with sp := s } :=
  { blk := h.blk, row := h.row, ncap := h.ncap, mcap := h.mcap, at_ := fun i hi => (h.at_ i hi).sp s, len := h.len, n1 := h.n1, n2 := h.n2, s1 := h.s1, s2 := h.s2, lf := h.lf, xr := h.xr, xL := h.xL, xlt := h.xlt }
theorem OnRef.src (h : OnRef X w r L cap k) : ∃ xs : List Value, Rd w 4 (some ⟨L, 0, none⟩) k.n cap xs ∧ (∀ u ∈ xs, u.oneCell' = true) ∧ ∀ q, q < k.n * 4 → xs[q]? = w.cell? ⟨L, q, none⟩ := by
  obtain ⟨cur, hrow, hcs⟩ := h.row
  have hcap := h.ncap
  have e : ∀ q, q < k.n * 4 → (cur.toList.take (k.n * 4))[q]? = w.cell? ⟨L, q, none⟩ := fun q hq => by
    rw [List.getElem?_take, if_pos hq, blk_cell hrow, Array.getElem?_toList]
  have hlen : (cur.toList.take (k.n * 4)).length = k.n * 4 := by
    rw [List.length_take, Array.length_toList, hcs]
    omega
  refine ⟨cur.toList.take (k.n * 4), ⟨hlen, hcap, h.mcap, fun _ => ⟨_, rfl, fun j u hu => ?_⟩⟩, fun u hu => ?_, e⟩
  · have hj : j < k.n * 4 := by
      have := (List.getElem?_eq_some_iff.1 hu).1
      omega
    rw [e j hj] at hu
    have : (⟨L, 0, none⟩ : Addr).add j = ⟨L, j, none⟩ := by unfold Addr.add; split <;> simp_all
    rw [this]
    exact hu
  · obtain ⟨q, hq, hqu⟩ := List.getElem_of_mem hu
    rw [hlen] at hq
    have hc : w.cell? ⟨L, q, none⟩ = some u := by rw [← e q hq, List.getElem?_eq_getElem (by omega), hqu]
    have ha := h.at_ (q / 4) (by omega)
    have hq4 : q = q / 4 * 4 + q % 4 := by omega
    obtain ⟨A, c, h1, _⟩ := ha.f
    rcases (by omega : q % 4 = 0 ∨ q % 4 = 1 ∨ q % 4 = 2 ∨ q % 4 = 3) with h0 | h0 | h0 | h0
    · rw [hq4, h0, Nat.add_zero, h1] at hc
      cases hc
      rfl
    · rw [hq4, h0, ha.l] at hc
      cases hc
      rfl
    · have := ha.nw
      rw [hq4, h0] at hc
      split at this
      · rw [this] at hc; cases hc; rfl
      · obtain ⟨_, _, h2, _⟩ := this
        rw [h2] at hc; cases hc; rfl
    · rw [hq4, h0, ha.b] at hc
      cases hc
      rfl
def CopiedRef (X : Nat → Prop) (w : World) (k : Dsk) (e : Ending) (w' : World) : Prop := ∃ r2 L2 cap2, e = .returned (.pointer (some ⟨r2, 0, none⟩)) ∧ w.heap.size ≤ r2 ∧ w.heap.size ≤ L2 ∧ r2 < w'.heap.size ∧ L2 < w'.heap.size ∧ Below w.heap.size w w' ∧
  ∀ Y : Nat → Prop, Y r2 → Y L2 → (∀ b, Y b → b < w'.heap.size) → (∀ b, Y b → X b ∨ w.heap.size ≤ b) → OnRef Y w' r2 L2 cap2 k
theorem copied_ref (h : OnRef X w r L cap k) {xs : List Value} (hx : ∀ q, q < k.n * 4 → xs[q]? = w.cell? ⟨L, q, none⟩) {A2 : Option Addr} {c2 B r2 : Nat} (hb : Below w.heap.size w w') (ho : w'.ownsRow B 158 4 (.slice A2 k.n c2) k.n xs) (hB : w.heap.size ≤ B)
    (hr2 : w'.heap[r2]? = some (.cells #[.int .i64 (k.size : Int), .slice A2 k.n c2, .bool k.set, .int .i64 (k.left : Int)] 60 (0, 0))) (hlo : w.heap.size ≤ r2) : CopiedRef X w k (.returned (.pointer (some ⟨r2, 0, none⟩))) w' := by
  have hn1 := h.n1
  rcases ho.2 with ⟨_, h0⟩ | ⟨g, cap2, cur, hv, hg, hL, hnc, hcm, hcs, htk⟩
  · omega
  · injection hv with e1 e2 e3
    subst e1 e3
    refine ⟨r2, g, c2, rfl, hlo, Nat.le_trans hB hg, blk_lt hr2, blk_lt hL, hb, fun Y hYr hYL hlt hY => ?_⟩
    refine { blk := hr2, row := ⟨cur, hL, hcs⟩, ncap := hnc, mcap := hcm, at_ := fun i hi => (h.at_ i hi).foreign h.s1 hb (fun q hq => ?_) hY, len := h.len, n1 := h.n1, n2 := h.n2, s1 := h.s1, s2 := h.s2, lf := h.lf, xr := hYr, xL := hYL, xlt := hlt }
    have hq4 : i * 4 + q < k.n * 4 := by omega
    rw [← hx _ hq4, ← htk, List.getElem?_take, if_pos hq4, blk_cell hL, Array.getElem?_toList]
set_option maxHeartbeats 2000000 in
theorem RCopy_ok (h : OnRef X w r L cap k) : Calls Try.prog 31 #[.pointer (some ⟨r, 0, none⟩)] w (CopiedRef X w k) := by
  obtain ⟨xs, hxr, hx1, hxc⟩ := h.src
  have r0 : w.cell? ⟨r, 0, none⟩ = some (.int .i64 (k.size : Int)) := blk_cell h.blk 0
  have r1 : w.cell? ⟨r, 1, none⟩ = some (.slice (some ⟨L, 0, none⟩) k.n cap) := blk_cell h.blk 1
  have r2 : w.cell? ⟨r, 2, none⟩ = some (.bool k.set) := blk_cell h.blk 2
  have r3 : w.cell? ⟨r, 3, none⟩ = some (.int .i64 (k.left : Int)) := blk_cell h.blk 3
  have hrl := blk_lt h.blk
  have hn2 := h.n2
  have HEND := Lib.hid (fun (w' : World) (A2 : Option Addr) (c2 B r2 : Nat) hb ho hB hr2 hlo => copied_ref (w' := w') (A2 := A2) (c2 := c2) (B := B) (r2 := r2) h hxc hb ho hB hr2 hlo)
  have HX1 := Lib.hid hx1
  have HXR := Lib.hid ((hxr.alloc (.cells #[] 158)).drew)
  have HOW := Lib.hid (show (w.drew.alloc (.cells #[] 158)).ownsRow w.drew.heap.size 158 4 (.slice (some ⟨w.drew.heap.size, 0, none⟩) 0 0) 0 [] from World.ownsRow_made w.drew #[] 0 (Nat.le_refl _) (by simp [maxLen]) (by simp))
  have hlm := hxr.le
  have KE := Lib.hid (fun (W : World) (hb : Below w.heap.size w W) => (⟨cell_keep hb r0, cell_keep hb r1, cell_keep hb r2, cell_keep hb r3⟩ : W.cell? ⟨r, 0, none⟩ = some (.int .i64 (k.size : Int)) ∧ W.cell? ⟨r, 1, none⟩ = some (.slice (some ⟨L, 0, none⟩) k.n cap) ∧ W.cell? ⟨r, 2, none⟩ = some (.bool k.set) ∧ W.cell? ⟨r, 3, none⟩ = some (.int .i64 (k.left : Int))))
  have hS0 := KE.out w.drew ((Below.refl _ _).drew)
  have HBA := Lib.hid (show Below w.heap.size w ((w.alloc (.cells #[] 158)).drew) from ((Below.refl _ w).alloc (Nat.le_refl _) _).drew)
  have hS1 := KE.out _ HBA.out
  clear h hxr hx1 hxc
  go_enter Try.func31, Try.ntmps31
  go_wp2
  go_region_held3 (fun w' => w'.cell? ⟨r, 0, none⟩ = some (.int .i64 (k.size : Int)) ∧ w'.cell? ⟨r, 1, none⟩ = some (.slice (some ⟨L, 0, none⟩) k.n cap) ∧ w'.cell? ⟨r, 2, none⟩ = some (.bool k.set) ∧ w'.cell? ⟨r, 3, none⟩ = some (.int .i64 (k.left : Int))) (first | assumption | exact KE.out _ HBA.out | exact KE.out _ (HB5.out.alloc HB5.out.size _))
    (first | (refine step_append_rd rfl _ _ _ 158 rfl (.agg #[.slice none 0 0, .bool false, .slice none 0 0, .bool false]) 4 64 Try.underlying58 info_sec rfl (by decide) HOW.out rfl (by exact HXR.out) rfl HX1.out (by omega) (by omega) (by simp) (fun A5 c5 w5 ho5 hg5 => ?_); have HO5 := Lib.hid ho5; have HB5 := Lib.hid (Grew.below (w0 := w) hg5 HBA.out (by exact HOW.out) (Nat.le_refl _)); have hS5 := KE.out _ HB5.out; clear ho5 hg5))
  go_wp2
  have HO6 : w5.ownsRow w.drew.heap.size 158 4 (.slice A5 k.n c5) k.n xs := by
    have := HO5.out
    rw [Nat.zero_add, List.nil_append] at this
    exact this
  try simp only [Nat.zero_add]
  go_ret
  exact HEND.out _ A5 c5 w.drew.heap.size w5.heap.size (HB5.out.alloc HB5.out.size _) (HO6.alloc _) (Nat.le_refl _) (blk_new w5 _) HB5.out.size
end
end Go.Proofs.Ytaldjmhikebecaa
