/- Layer 8 (sector): Copy: what it leans on: bytes.Clone with what room it leaves, maps.Clone, a map that is copied entry for entry. -/
import Derived.Test.YtaldjmhikebecaaGreatCrash
import Derived.Test.YtaldjmhikebecaaGreatLay
import Derived.Maps.RangeWalk
import Derived.Test.YtaldjmhikebecaaGreatRefN
import Derived.Deep.RegionHeld3
import Derived.Deep.RegionLaw
namespace Go.Proofs.YtaldjmhikebecaaGreat
open Go Go.RowKit
set_option maxRecDepth 100000
set_option linter.unusedVariables false
attribute [local go_sem] Oper.semAt_some eq_nil_bytes
theorem zeroB (m : Nat) : (Builtin.zeroCells (Value.int .u8 0).cells m).toList = bytes (List.replicate m 0) := by
  refine List.ext_getElem (by simp [Builtin.zeroCells, bytes, Value.cells]) fun k h1 h2 => ?_
  simp [Builtin.zeroCells, Value.cells, Nat.mod_one, bytes, byt]
def RetSpare (w : World) (n : Nat) (l : List UInt8) (e : Ending) (w' : World) : Prop := ∃ g sp, e = .returned (.slice (some ⟨g, 0, none⟩) n (n + sp)) ∧ n + sp ≤ maxLen ∧ w.heap.size ≤ g ∧ w'.heap[g]? = some (.cells (bytes (l ++ List.replicate sp 0)).toArray 5 (0, 0)) ∧ Below w.heap.size w w'
theorem grown_row {w : World} {A : Option Addr} {n c : Nat} {l : List UInt8} (h : Bs w A n c l) (hn : 0 < n) (hb : n ≤ 140737488355328) :
    ∃ v w', (∀ ty, (Builtin.append_ #[51, 51] ty #[.slice (some ⟨w.heap.size, 0, none⟩) 0 0, .slice A n c]).run Tryz.prog (w.alloc (.cells #[] 5)) = .ok v w') ∧ RetSpare w n l (.returned v) w' := by
  obtain ⟨ad, rfl, hc⟩ := h.2.2.2 hn
  obtain ⟨i, hi, hz, hs, hby⟩ := info_parts info_u8
  have hcell := (h.alloc (.cells #[] 5)).2.2.2 hn
  obtain ⟨ad2, e2, hc2⟩ := hcell
  cases e2
  have hrun := fun ty => run_append_grow (P := Tryz.prog) (w := w.alloc (.cells #[] 5)) 51 ty 5 i (.int .u8 0) Tryz.underlying51 hi hz ⟨w.heap.size, 0, none⟩ 0 0 [] (by simp) (fun j v hv => by simp at hv) ad n c (bytes l) (by rw [bytes_length, h.len, hs, Nat.mul_one]) hc2 (by omega) (by omega) (growslice_fits (by omega) (by rw [hby]; omega))
  have hge : n ≤ grownCap (w.alloc (.cells #[] 5)) (0 + n) 0 5 := by have := grownCap_ge (w.alloc (.cells #[] 5)) (0 + n) 0 5; omega
  have hle := grownCap_le_maxLen (w.alloc (.cells #[] 5)) (0 + n) 0 5 (by have := h.le; omega)
  obtain ⟨sp, hsp⟩ : ∃ sp, grownCap (w.alloc (.cells #[] 5)) (0 + n) 0 5 = n + sp := ⟨_, (Nat.add_sub_cancel' hge).symm⟩
  rw [hsp] at hrun hle
  have ec : (([] : List Value).toArray ++ (bytes l).toArray ++ Builtin.zeroCells (Value.int .u8 0).cells (n + sp - (0 + n))) = (bytes (l ++ List.replicate sp 0)).toArray := by
    apply Array.toList_inj.1
    rw [Array.toList_append, Array.toList_append, zeroB, show n + sp - (0 + n) = sp from by omega, bytes_append]
    simp
  rw [ec, Nat.zero_add] at hrun
  refine ⟨_, _, hrun, (w.alloc (.cells #[] 5)).heap.size, sp, rfl, hle, by simp, ?_, (((Below.refl _ w).alloc (Nat.le_refl _) _).drew).alloc (by simp) _⟩
  exact blk_new ((w.alloc (.cells #[] 5)).drew) _
theorem wpList_append_run {P : Program} {w w' : World} {ops : Array Oper} {rest : List Oper} {o : Oper} {a : Act} {Q : Exit → Act → World → Prop} (hgd : o.guard = none) (s x : Operand) (t : TypeId)
    (ho : o.op = .call { callee := .builtin .append, args := #[s, x], argTypes := #[t, t] }) {v vs vx : Value} (hs : a.eval s = vs) (hx : a.eval x = vx) (hrun : ∀ ty, (Builtin.append_ #[t, t] ty #[vs, vx]).run P w = .ok v w')
    (h : wpList P ops Q rest (a.put o.dst v) w') : wpList P ops Q (o :: rest) a w := by
  refine wpList_plain hgd fun K hK => ?_
  unfold Oper.wp
  simp [execOp, ho, resolve, invoke, builtin, hs, hx, hrun, Result.andThen]
  exact hK _ _ h
theorem BClone_row (A : Option Addr) (n c : Nat) (l : List UInt8) (w : World) (h : Bs w A n c l) (hn : 0 < n) (hb : n ≤ 140737488355328) :
    Calls Tryz.prog 43 #[.slice A n c] w (RetSpare w n l) := by
  obtain ⟨v, w', hrun, hret⟩ := grown_row h hn hb
  obtain ⟨ad, rfl, _⟩ := h.2.2.2 hn
  have HR := Lib.hid hret
  have HRUN := Lib.hid hrun
  clear hret h hb hrun
  go_enter Tryz.func43, Tryz.ntmps43
  go_wp2_with (at_builtin; go_must (refine wpList_append_run rfl _ _ 51 rfl rfl rfl HRUN.out ?_))
  go_ret
  exact HR.out
section
variable {w w' : World} {d fb lb bb c : Nat} {k : Dsk} {X : Nat → Prop}
open Go.Maps in
theorem own_size {H : Type} {P : Program} {kt : TypeId} {R : Value → Option (DataW H × List MemPlace)} {b n : Nat} {D : DataW H} (h : w.ownsMap P kt R b n D) : Maps.size D ≤ n := by
  obtain ⟨es, clock, hb, F, hs, rfl⟩ := h
  simp only [Maps.size, length_sorted, List.length_map]
  exact hs
/-- What has been copied. -/
def Dsk.part (k : Dsk) (left : Lit → Bool) : Dsk := { k with loose := fun i => if left (key i) then none else k.loose i }
theorem looseAt_part {left : Lit → Bool} {D2 : DataW Value} {lb2 c2 i : Nat} (hm : w.ownsMap Tryz.prog 3 rawR lb2 c2 D2) (hl : LooseAt X w (k.part left) D2) (hi : i < k.n) {l : List UInt8} (hlo : k.loose i = some l) {A : Option Addr} {c' : Nat}
    (hk : ∀ A n c l, Bs w A n c l → (∀ ad, A = some ad → ¬ X ad.block) → Bs w' A n c l) (hB : Bs w' A k.size c' l) (hA : ∀ ad, A = some ad → ¬ X ad.block) :
    LooseAt X w' (k.part (fun z => left z && !z.sameKey (key i))) (D2.put (key i) (.held (.slice A k.size c'))) := by
  refine ⟨fun j hj => ?_, fun kl hkl => ?_⟩
  · by_cases hji : j = i
    · subst hji
      have e : (k.part (fun z => left z && !z.sameKey (key j))).loose j = some l := by simp [Dsk.part, WideAt.sameKey_self (key_lit j), hlo]
      rw [e]
      exact ⟨Maps.has_put_same hm.isMap (key_lit j) _, A, c', fun z => Maps.atKey_put_same hm.isMap (key_lit j) _ z, hB, hA⟩
    · have e : (k.part (fun z => left z && !z.sameKey (key i))).loose j = (k.part left).loose j := by
        have : (key j).sameKey (key i) = false := by
          refine Bool.eq_false_iff.2 fun e => ?_
          simp only [key, Lit.sameKey] at e
          simp at e
          omega
        simp [Dsk.part, this]
      rw [e]
      have := hl.at_ j hj
      split at this
      · rename_i e2
        exact (Maps.has_put_other (key_ne hji) _).trans this
      · rename_i l2 e2
        obtain ⟨h1, A2, c2, h2, h5, h6⟩ := this
        exact ⟨(Maps.has_put_other (key_ne hji) _).trans h1, A2, c2, fun z => (Maps.atKey_put_other (key_ne hji) _ z).trans (h2 z), hk _ _ _ _ h5 h6, h6⟩
  · by_cases hk : kl = key i
    · exact ⟨i, hi, hk⟩
    · rw [Maps.has_put_other hk] at hkl
      exact hl.keys kl hkl
theorem looseAt_start {D D2 : DataW Value} (h : LooseAt X w k D) (hD2 : ∀ kl, Maps.has D2 kl = false) {Y : Nat → Prop} : LooseAt Y w' (k.part (Maps.has D)) D2 := by
  refine ⟨fun i hi => ?_, fun kl hkl => by rw [hD2] at hkl; cases hkl⟩
  have : (k.part (Maps.has D)).loose i = none := by
    have := h.at_ i hi
    cases hlo : k.loose i with
    | none => simp [Dsk.part, hlo]
    | some l =>
      rw [hlo] at this
      simp [Dsk.part, this.1]
  rw [this]
  exact hD2 _
theorem part_end {left : Lit → Bool} (h : ∀ kl, left kl = false) : k.part left = k := by
  simp [Dsk.part, h]
end
end Go.Proofs.YtaldjmhikebecaaGreat
namespace Go.Proofs.YtaldjmhikebecaaGreat
open Go Go.RowKit
set_option maxRecDepth 100000
set_option linter.unusedVariables false
attribute [local go_sem] Oper.semAt_some
section
variable {w w' w0 : World} {d fb lb bb c r L cap : Nat} {k : Dsk} {X : Nat → Prop}
theorem bs_lt {A : Option Addr} {n c : Nat} {l : List UInt8} (h : Bs w A n c l) (hn : 0 < n) : ∀ ad, A = some ad → ad.block < w.heap.size := by
  intro ad e
  obtain ⟨ad', e', hc⟩ := h.at_ (k := 0) hn
  rw [e] at e'
  cases e'
  have := World.block_lt_of_cell? w _ hc
  rwa [block_add] at this
/-- Other blocks are foreign: some of the old ones, and new ones. -/
theorem OnDisk.foreign (h : OnDisk X w0 d fb lb bb c k) (hb : Below w0.heap.size w0 w) {Y : Nat → Prop} (hd : Y d) (hf : Y fb) (hlt : ∀ b, Y b → b < w.heap.size) (hY : ∀ b, Y b → X b ∨ w0.heap.size ≤ b) : OnDisk Y w d fb lb bb c k := by
  obtain ⟨D, h1, h2⟩ := h.loo
  have h' := h.below hb
  refine { h' with xd := hd, xf := hf, xlt := hlt, loo := ⟨D, own_map_block h1 (hb.block _ h1.lt), ⟨fun i hi => ?_, h2.keys⟩⟩ }
  have := h2.at_ i hi
  split at this
  · exact this
  · obtain ⟨g1, A, c', g2, g3, g4⟩ := this
    refine ⟨g1, A, c', g2, g3.below hb, fun ad e hy => ?_⟩
    rcases hY _ hy with hx | hx
    · exact g4 ad e hx
    · have := bs_lt g3 (by have := h.s1; omega) ad e
      omega
theorem RAt.foreign {i : Nat} (h : RAt X w0 L k i) (hs : 1 ≤ k.size) (hb : Below w0.heap.size w0 w) {L2 : Nat} (hc : ∀ q, q < 4 → w.cell? ⟨L2, i * 4 + q, none⟩ = w0.cell? ⟨L, i * 4 + q, none⟩) {Y : Nat → Prop} (hY : ∀ b, Y b → X b ∨ w0.heap.size ≤ b) : RAt Y w L2 k i := by
  obtain ⟨A, c, h1, h2, h3⟩ := h.f
  have far : ∀ (A : Option Addr) (c : Nat) (l : List UInt8), Bs w0 A k.size c l → (∀ ad, A = some ad → ¬ X ad.block) → ∀ ad, A = some ad → ¬ Y ad.block := fun A c l hB hX ad e hy => by
    rcases hY _ hy with hx | hx
    · exact hX ad e hx
    · have := bs_lt hB (by omega) ad e
      omega
  refine ⟨⟨A, c, (hc 0 (by omega)).trans h1, h2.below hb, far _ _ _ h2 h3⟩, (hc 1 (by omega)).trans h.l, ?_, (hc 3 (by omega)).trans h.b⟩
  have := h.nw
  split at this
  · exact (hc 2 (by omega)).trans this
  · obtain ⟨A, c, h1, h2, h3⟩ := this
    exact ⟨A, c, (hc 2 (by omega)).trans h1, h2.below hb, far _ _ _ h2 h3⟩
theorem OnRef.foreign (h : OnRef X w0 r L cap k) (hb : Below w0.heap.size w0 w) {Y : Nat → Prop} (hr : Y r) (hL : Y L) (hlt : ∀ b, Y b → b < w.heap.size) (hY : ∀ b, Y b → X b ∨ w0.heap.size ≤ b) : OnRef Y w r L cap k := by
  have h' := h.below hb
  obtain ⟨cur, hrow, hcs⟩ := h.row
  refine { h' with xr := hr, xL := hL, xlt := hlt, at_ := fun i hi => (h.at_ i hi).foreign h.s1 hb (fun q hq => ?_) hY }
  exact World.cell?_of_block (a := ⟨L, i * 4 + q, none⟩) (hb.block L (blk_lt hrow))
/-- What room the program's disk has is nothing to the reference. -/
theorem RAt.sp {i : Nat} (h : RAt X w L k i) (s : Nat) : RAt X w L { k with sp := s } i := ⟨h.f, h.l, h.nw, h.b⟩
theorem OnRef.sp (h : OnRef X w r L cap k) (s : Nat) : OnRef X w r L cap { k with sp := s } :=
  { blk := h.blk, row := h.row, ncap := h.ncap, mcap := h.mcap, at_ := fun i hi => (h.at_ i hi).sp s, len := h.len, n1 := h.n1, n2 := h.n2, s1 := h.s1, s2 := h.s2, lf := h.lf, xr := h.xr, xL := h.xL, xlt := h.xlt }
theorem OnRef.src (h : OnRef X w r L cap k) : ∃ xs : List Value, Rd w 4 (some ⟨L, 0, none⟩) k.n cap xs ∧ (∀ u ∈ xs, u.oneCell' = true) ∧ ∀ q, q < k.n * 4 → xs[q]? = w.cell? ⟨L, q, none⟩ := by
  obtain ⟨cur, hrow, hcs⟩ := h.row
  have hcap := h.ncap
  have e : ∀ q, q < k.n * 4 → (cur.toList.take (k.n * 4))[q]? = w.cell? ⟨L, q, none⟩ := fun q hq => by
    rw [List.getElem?_take, if_pos hq, blk_cell hrow, Array.getElem?_toList]
  have hlen : (cur.toList.take (k.n * 4)).length = k.n * 4 := by
    rw [List.length_take, Array.length_toList, hcs]
    omega
  refine ⟨cur.toList.take (k.n * 4), ⟨hlen, hcap, h.mcap, fun _ => ⟨_, rfl, fun j u hu => ?_⟩⟩, fun u hu => ?_, e⟩
  · have hj : j < k.n * 4 := by
      have := (List.getElem?_eq_some_iff.1 hu).1
      omega
    rw [e j hj] at hu
    have : (⟨L, 0, none⟩ : Addr).add j = ⟨L, j, none⟩ := by unfold Addr.add; split <;> simp_all
    rw [this]
    exact hu
  · obtain ⟨q, hq, hqu⟩ := List.getElem_of_mem hu
    rw [hlen] at hq
    have hc : w.cell? ⟨L, q, none⟩ = some u := by rw [← e q hq, List.getElem?_eq_getElem (by omega), hqu]
    have ha := h.at_ (q / 4) (by omega)
    have hq4 : q = q / 4 * 4 + q % 4 := by omega
    obtain ⟨A, c, h1, _⟩ := ha.f
    rcases (by omega : q % 4 = 0 ∨ q % 4 = 1 ∨ q % 4 = 2 ∨ q % 4 = 3) with h0 | h0 | h0 | h0
    · rw [hq4, h0, Nat.add_zero, h1] at hc
      cases hc
      rfl
    · rw [hq4, h0, ha.l] at hc
      cases hc
      rfl
    · have := ha.nw
      rw [hq4, h0] at hc
      split at this
      · rw [this] at hc; cases hc; rfl
      · obtain ⟨_, _, h2, _⟩ := this
        rw [h2] at hc; cases hc; rfl
    · rw [hq4, h0, ha.b] at hc
      cases hc
      rfl
end
end Go.Proofs.YtaldjmhikebecaaGreat
