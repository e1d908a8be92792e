/- Layer 8 (sector): a disk in memory, as a word on worlds; what its calls make of it, in plain terms. -/
import Derived.Maps.OwnIn
import Derived.Test.YtaldjmhikebecaaGreatOct
import Derived.Deep.RegionHeld3
import Derived.Deep.RegionWith
import Derived.Lib.AppendZerosOnto
import Derived.Lib.FrozenHead
import Derived.LoopIn
import Derived.LoopNIn
import Derived.OwnWalkIn
import Derived.RangeFuncBound
import Derived.RangeFuncBox
import Derived.RangeFuncCalls
import Derived.RangeFuncLeaves
import Derived.RangeFuncNested
import Derived.Shelf.Abstract
import Derived.Shelf.RegionOpen
import Derived.TacticsInMore
namespace Go.Proofs.YtaldjmhikebecaaGreat
open Go Go.RowKit
set_option maxRecDepth 100000
set_option linter.unusedVariables false
attribute [local go_sem] Oper.semAt_some
theorem made_yes (d : Nat) (z : Int) (hz : 0 < z) (w : World) (hc : w.cell? ⟨d, 1, none⟩ = some (.int .i64 z)) :
    Calls Tryz.prog 40 #[.pointer (some ⟨d, 0, none⟩)] w fun e w' => e = .returned (.bool true) ∧ w' = w := by
  have hz1 : decide (0 < z) = true := by simpa using hz
  go_enter Tryz.func40, Tryz.ntmps40
  go_wp2
  go_ret
  simp
theorem in_any (d : Nat) (n a b : Int) (w : World) (hc : w.cell? ⟨d, 0, none⟩ = some (.int .i64 n)) (hn0 : 0 ≤ n) (hn : n ≤ 65536) (ha : -9223372036854775808 ≤ a) (ha2 : a ≤ 9223372036854775807) :
    Calls Tryz.prog 71 #[.pointer (some ⟨d, 0, none⟩), .int .i64 a, .int .i64 b] w fun e w' => e = .returned (.bool (decide (0 ≤ a ∧ 0 ≤ b ∧ a ≤ n ∧ b ≤ n - a))) ∧ w' = w := by
  by_cases h1 : 0 ≤ a
  · by_cases h2 : 0 ≤ b
    · by_cases h3 : a ≤ n
      · have hw : IntKind.i64.wrap (n - a) = n - a := by rw [IntKind.wrap_i64]; omega
        go_enter Tryz.func71, Tryz.ntmps71
        go_wp2
        go_ret
        simp [h1, h2, h3] <;> (try (intros; omega))
      · go_enter Tryz.func71, Tryz.ntmps71
        go_wp2
        go_ret
        simp <;> (try (intros; omega))
    · go_enter Tryz.func71, Tryz.ntmps71
      go_wp2
      go_ret
      simp <;> (try (intros; omega))
  · go_enter Tryz.func71, Tryz.ntmps71
    go_wp2
    go_ret
    simp <;> (try (intros; omega))
theorem power_off (d : Nat) (w : World) (h5 : w.cell? ⟨d, 5, none⟩ = some (.bool false)) (h6 : w.cell? ⟨d, 6, none⟩ = some (.int .i64 0)) (hf : w.frozen? ⟨d, 6, none⟩ = false) :
    Calls Tryz.prog 41 #[.pointer (some ⟨d, 0, none⟩)] w fun e w' => e = .returned (.int .i64 0) ∧ w' = w.setCell ⟨d, 6, none⟩ (.int .i64 0) := by
  go_enter Tryz.func41, Tryz.ntmps41
  go_wp2
  go_ret
  exact ⟨rfl, rfl⟩
end Go.Proofs.YtaldjmhikebecaaGreat
namespace Go.Proofs.YtaldjmhikebecaaGreat
open Go Go.RowKit
set_option maxRecDepth 100000
set_option linter.unusedVariables false

/-! ### only some blocks have changed -/
structure Touch (S : Nat → Prop) (w w' : World) : Prop where
  os : w'.os = w.os
  tape : w'.tape = w.tape
  output : w'.output = w.output
  size : w.heap.size ≤ w'.heap.size
  block : ∀ k, k < w.heap.size → ¬ S k → w'.heap[k]? = w.heap[k]?
theorem Touch.refl (S : Nat → Prop) (w : World) : Touch S w w := ⟨rfl, rfl, rfl, Nat.le_refl _, fun _ _ _ => rfl⟩
theorem Touch.trans {S : Nat → Prop} {a b c : World} (h : Touch S a b) (k : Touch S b c) : Touch S a c :=
  ⟨k.os.trans h.os, k.tape.trans h.tape, k.output.trans h.output, Nat.le_trans h.size k.size, fun i hi hn => (k.block i (Nat.lt_of_lt_of_le hi h.size) hn).trans (h.block i hi hn)⟩
theorem Touch.mono {S T : Nat → Prop} {a b : World} (h : Touch S a b) (hs : ∀ k, k < a.heap.size → S k → T k) : Touch T a b :=
  ⟨h.os, h.tape, h.output, h.size, fun i hi hn => h.block i hi fun hs' => hn (hs i hi hs')⟩
theorem Touch.of_below {S : Nat → Prop} {a b : World} (h : Below a.heap.size a b) : Touch S a b := ⟨h.os, h.tape, h.output, h.size, fun i hi _ => h.block i hi⟩
theorem Touch.of_grown {S : Nat → Prop} {a b : World} {row : Option Nat} (h : a.grownBy b row) (hr : ∀ k, row = some k → S k) : Touch S a b :=
  ⟨h.os, h.tape, h.output, h.size, fun i hi hn => h.block i hi fun e => hn (hr i e.symm)⟩
theorem Touch.of_set {S : Nat → Prop} (a : World) {p : Addr} (v : Value) (h : S p.block) : Touch S a (a.setCell p v) :=
  ⟨rfl, rfl, rfl, by simp [World.setCell], fun i hi hn => Below.heap_setCell a p v i fun e => hn (e ▸ h)⟩
theorem Touch.below {S : Nat → Prop} {B : Nat} {w0 a b : World} (h : Below B w0 a) (k : Touch S a b) (hB : B ≤ w0.heap.size) (hs : ∀ i, S i → B ≤ i) : Below B w0 b :=
  ⟨k.os.trans h.os, k.tape.trans h.tape, k.output.trans h.output, Nat.le_trans h.size k.size, fun i hi => (k.block i (Nat.lt_of_lt_of_le (Nat.lt_of_lt_of_le hi hB) h.size) fun e => by have := hs i e; omega).trans (h.block i hi)⟩
theorem Touch.blk {S : Nat → Prop} {a b : World} (k : Touch S a b) {i : Nat} {o : Obj} (h : a.heap[i]? = some o) (hn : ¬ S i) : b.heap[i]? = some o := (k.block i (blk_lt h) hn).trans h
theorem Touch.cell {S : Nat → Prop} {a b : World} (k : Touch S a b) {p : Addr} {v : Value} (h : a.cell? p = some v) (hn : ¬ S p.block) : b.cell? p = some v := by
  have := k.block p.block (World.block_lt_of_cell? a p h) hn
  unfold World.cell? at h ⊢
  rw [this]
  exact h
theorem Touch.bs {S : Nat → Prop} {a b : World} (k : Touch S a b) {A : Option Addr} {n c : Nat} {l : List UInt8} (h : Bs a A n c l) (hn : ∀ ad, A = some ad → ¬ S ad.block) : Bs b A n c l :=
  ⟨h.1, h.2.1, h.2.2.1, fun h0 => by
    obtain ⟨ad, e, hc⟩ := h.2.2.2 h0
    exact ⟨ad, e, fun j u hu => k.cell (hc j u hu) (by rw [block_add]; exact hn ad e)⟩⟩

/-! ### a disk, in plain terms -/
structure Dsk where
  n : Nat
  size : Nat
  fast : List UInt8
  loose : Nat → Option (List UInt8)
  bad : Nat → Bool
  set : Bool
  left : Nat
  sp : Nat := 0
def Dsk.new (n size : Nat) : Dsk := ⟨n, size, List.replicate (n * size) 0, fun _ => none, fun _ => false, false, 0, 0⟩
/-- What is fast in a sector. -/
def Dsk.at_ (k : Dsk) (i : Nat) : List UInt8 := (k.fast.drop (i * k.size)).take k.size
def Dsk.sec (k : Dsk) (i : Nat) : Option (List UInt8) :=
  match k.loose i with
  | some l => some l
  | none => if k.bad i then none else some (k.at_ i)
def Dsk.read (k : Dsk) (i : Nat) : Nat → Option (List UInt8)
  | 0 => some []
  | m + 1 => match k.read i m, k.sec (i + m) with
    | some a, some b => some (a ++ b)
    | _, _ => none
def Dsk.put (k : Dsk) (i : Nat) (l : List UInt8) : Dsk := { k with loose := fun j => if j = i then some l else k.loose j }
/-- The first m sectors of bytes, written. -/
def Dsk.puts (k : Dsk) (i : Nat) (l : List UInt8) : Nat → Dsk
  | 0 => k
  | m + 1 => (k.puts i l m).put (i + m) ((l.drop (m * k.size)).take k.size)
def Dsk.less (k : Dsk) : Dsk := { k with left := k.left - 1 }
theorem Dsk.puts_dims (k : Dsk) (i : Nat) (l : List UInt8) (m : Nat) : (k.puts i l m).n = k.n ∧ (k.puts i l m).size = k.size ∧ (k.puts i l m).fast = k.fast ∧ (k.puts i l m).bad = k.bad ∧ (k.puts i l m).set = k.set ∧ (k.puts i l m).left = k.left := by
  induction m with
  | zero => exact ⟨rfl, rfl, rfl, rfl, rfl, rfl⟩
  | succ m ih => exact ih

theorem Dsk.puts_sp (k : Dsk) (i : Nat) (l : List UInt8) (m : Nat) : (k.puts i l m).sp = k.sp := by
  induction m with
  | zero => rfl
  | succ m ih => exact ih

/-! ### a disk in memory -/
def rawR (v : Value) : Option (DataW Value × List MemPlace) := some (.held v, [])
theorem int_law : Maps.Keyed Tryz.prog 3 := Maps.int_keyed Tryz.underlying3
def key (i : Nat) : Lit := .int .i64 (i : Int)
def Dsk.cells (k : Dsk) (fb lb bb : Nat) : Array Value := #[.int .i64 (k.n : Int), .int .i64 (k.size : Int), .slice (some ⟨fb, 0, none⟩) (k.n * k.size) (k.n * k.size + k.sp), .map (some lb), .map (some bb), .bool k.set, .int .i64 (k.left : Int)]
/-- The map of what is loose. -/
structure LooseAt (X : Nat → Prop) (w : World) (k : Dsk) (D : DataW Value) : Prop where
  at_ : ∀ i, i < k.n → match k.loose i with
    | none => Maps.has D (key i) = false
    | some l => Maps.has D (key i) = true ∧ ∃ A c, (∀ z, D.atKey (key i) z = .held (.slice A k.size c)) ∧ Bs w A k.size c l ∧ ∀ ad, A = some ad → ¬ X ad.block
  keys : ∀ kl, Maps.has D kl = true → ∃ i, i < k.n ∧ kl = key i
structure OnDisk (X : Nat → Prop) (w : World) (d fb lb bb c : Nat) (k : Dsk) : Prop where
  blk : w.heap[d]? = some (.cells (k.cells fb lb bb) 80 (0, 0))
  fst : w.heap[fb]? = some (.cells (bytes (k.fast ++ List.replicate k.sp 0)).toArray 5 (0, 0))
  spm : k.n * k.size + k.sp ≤ maxLen
  len : k.fast.length = k.n * k.size
  n1 : 1 ≤ k.n
  n2 : k.n ≤ 65536
  s1 : 1 ≤ k.size
  s2 : k.size ≤ 8192
  lf : k.left ≤ 9223372036854775807
  cnt : c < 1099511627776
  ne : lb ≠ bb
  xd : X d
  xf : X fb
  xlt : ∀ b, X b → b < w.heap.size
  loo : ∃ D, w.ownsMap Tryz.prog 3 rawR lb c D ∧ LooseAt X w k D
  bd : ∃ D cb, w.ownsMap (H := Value) Tryz.prog 3 unitElem bb cb D ∧ cb ≤ c ∧ ∀ i, i < k.n → Maps.has D (key i) = k.bad i
section
variable {w w' : World} {d fb lb bb c : Nat} {k : Dsk} {X : Nat → Prop}
theorem LooseAt.kept {D : DataW Value} (h : LooseAt X w k D) (hk : ∀ A n c l, Bs w A n c l → (∀ ad, A = some ad → ¬ X ad.block) → Bs w' A n c l) : LooseAt X w' k D := by
  refine ⟨fun i hi => ?_, h.keys⟩
  have := h.at_ i hi
  split at this
  · exact this
  · obtain ⟨h1, A, c, h2, h3, h4⟩ := this
    exact ⟨h1, A, c, h2, hk _ _ _ _ h3 h4, h4⟩
theorem OnDisk.ne_df (h : OnDisk X w d fb lb bb c k) : d ≠ fb := by
  intro e
  have h1 := h.blk
  have h2 := h.fst
  rw [e] at h1
  rw [h1] at h2
  simp [Dsk.cells] at h2
theorem own_map_obj {H : Type} {P : Program} {kt : TypeId} {R : Value → Option (DataW H × List MemPlace)} {b n : Nat} {D : DataW H} (h : w.ownsMap P kt R b n D) : ∃ es clock, w.heap[b]? = some (.map es clock) := by
  obtain ⟨es, clock, hb, _⟩ := h
  exact ⟨es, clock, hb⟩
theorem own_map_block {H : Type} {P : Program} {kt : TypeId} {R : Value → Option (DataW H × List MemPlace)} {b n : Nat} {D : DataW H} (h : w.ownsMap P kt R b n D) (hb : w'.heap[b]? = w.heap[b]?) : w'.ownsMap P kt R b n D := by
  obtain ⟨es, clock, h1, r⟩ := h
  exact ⟨es, clock, hb.trans h1, r⟩
theorem OnDisk.lts (h : OnDisk X w d fb lb bb c k) : d < w.heap.size ∧ fb < w.heap.size ∧ lb < w.heap.size ∧ bb < w.heap.size := by
  obtain ⟨_, h1, _⟩ := h.loo
  obtain ⟨_, _, h2, _⟩ := h.bd
  exact ⟨blk_lt h.blk, blk_lt h.fst, h1.lt, h2.lt⟩
/-- No byte lies in a block. -/
def NoByte (w : World) (i : Nat) : Prop := ∀ p : Addr, p.block = i → ∀ v, w.cell? p ≠ some (.int .u8 v)
theorem noByte_other {i : Nat} {o : Obj} (h : w.heap[i]? = some o) (hc : o.isCells = false) : NoByte w i := by
  rintro p rfl v
  unfold World.cell?
  rw [h]
  cases o <;> simp_all [Obj.isCells]
theorem noByte_cells {i t : Nat} {cs : Array Value} {f : Nat × Nat} (h : w.heap[i]? = some (.cells cs t f)) (hc : ∀ v, Value.int .u8 v ∉ cs.toList) : NoByte w i := by
  rintro p rfl v
  unfold World.cell?
  rw [h]
  dsimp only
  split
  · simp
  · intro e
    exact hc v (by rw [Array.mem_toList_iff]; exact Array.mem_of_getElem? e)
/-- A disk stays while none of its four blocks is touched. -/
theorem OnDisk.kept {S : Nat → Prop} (h : OnDisk X w d fb lb bb c k) (t : Touch S w w') (hd : ¬ S d) (hf : ¬ S fb) (hl : ¬ S lb) (hb : ¬ S bb) (hs : ∀ i, S i → NoByte w i ∨ X i) : OnDisk X w' d fb lb bb c k := by
  obtain ⟨D, h1, h2⟩ := h.loo
  obtain ⟨E, cb, h3, h4⟩ := h.bd
  refine { h with xlt := fun b hb => Nat.lt_of_lt_of_le (h.xlt b hb) t.size, blk := t.blk h.blk hd, fst := t.blk h.fst hf, loo := ⟨D, own_map_block h1 (t.block _ h1.lt hl), ?_⟩, bd := ⟨E, cb, own_map_block h3 (t.block _ h3.lt hb), h4⟩ }
  refine h2.kept ?_
  intro A n c l hB hA
  refine ⟨hB.1, hB.2.1, hB.2.2.1, fun h0 => ?_⟩
  obtain ⟨ad, e, hc⟩ := hB.2.2.2 h0
  refine ⟨ad, e, fun j u hu => ?_⟩
  have hcell := hc j u hu
  refine t.cell hcell ?_
  rw [block_add]
  intro hS
  obtain ⟨x, hx⟩ : ∃ x, u = .int .u8 x := by
    have := List.mem_of_getElem? hu
    simp only [bytes, List.mem_map] at this
    obtain ⟨y, _, rfl⟩ := this
    exact ⟨_, rfl⟩
  rcases hs _ hS with h5 | h5
  · exact h5 (ad.add j) (block_add _ _) x (hx ▸ hcell)
  · exact hA ad e h5
theorem OnDisk.below (h : OnDisk X w d fb lb bb c k) (t : Below w.heap.size w w') : OnDisk X w' d fb lb bb c k :=
  h.kept (S := fun _ => False) (Touch.of_below t) (fun h => h) (fun h => h) (fun h => h) (fun h => h) (fun _ h => h.elim)
theorem OnDisk.alloc (h : OnDisk X w d fb lb bb c k) (o : Obj) : OnDisk X (w.alloc o) d fb lb bb c k := h.below ((Below.refl _ _).alloc (Nat.le_refl _) o)
theorem key_ne {i j : Nat} (h : j ≠ i) : key j ≠ key i := by
  intro e
  simp [key] at e
  exact h (by omega)
theorem key_lit (i : Nat) : WideAt.IsKeyLit (key i) := trivial
theorem OnDisk.put (h : OnDisk X w d fb lb bb c k) {D : DataW Value} (hm : w.ownsMap Tryz.prog 3 rawR lb c D) (hl : LooseAt X w k D) {i : Nat} {A : Option Addr} {c' : Nat} {l : List UInt8}
    (ho : w'.ownsMap Tryz.prog 3 rawR lb (c + 1) (D.put (key i) (.held (.slice A k.size c')))) (hg : w.grownBy w' (some lb)) (hB : Bs w' A k.size c' l) (hA : ∀ ad, A = some ad → ¬ X ad.block) (hc : c + 1 < 1099511627776) (hi : i < k.n) :
    OnDisk X w' d fb lb bb (c + 1) (k.put i l) := by
  obtain ⟨es, clock, hlb⟩ := own_map_obj hm
  have hd : d ≠ lb := by intro e; have := h.blk; rw [e, hlb] at this; cases this
  have hf : fb ≠ lb := by intro e; have := h.fst; rw [e, hlb] at this; cases this
  obtain ⟨E, cb, h3, h4⟩ := h.bd
  have keep : ∀ A n c l, Bs w A n c l → Bs w' A n c l := by
    intro A n c l hB
    refine hB.keep fun a v hv => hg.cell hv ?_
    intro e
    have e : a.block = lb := by simpa using e
    unfold World.cell? at hv
    rw [e, hlb] at hv
    cases hv
  refine { h with xlt := fun b hb => Nat.lt_of_lt_of_le (h.xlt b hb) hg.size, blk := (hg.block d (blk_lt h.blk) (by simpa using hd)).trans h.blk, fst := (hg.block fb (blk_lt h.fst) (by simpa using hf)).trans h.fst, cnt := hc, loo := ⟨_, ho, fun j hj => ?_, fun kl hkl => ?_⟩, bd := ⟨E, cb, own_map_block h3 (hg.block bb h3.lt (by simpa using Ne.symm h.ne)), Nat.le_succ_of_le h4.1, h4.2⟩ }
  rotate_left
  · by_cases hk : kl = key i
    · exact ⟨i, hi, hk⟩
    · rw [Maps.has_put_other hk] at hkl
      exact hl.keys kl hkl
  by_cases hji : j = i
  · subst hji
    have e : (k.put j l).loose j = some l := by simp [Dsk.put]
    rw [e]
    exact ⟨Maps.has_put_same hm.isMap (key_lit j) _, A, c', fun z => Maps.atKey_put_same hm.isMap (key_lit j) _ z, hB, hA⟩
  · have e : (k.put i l).loose j = k.loose j := by simp [Dsk.put, hji]
    rw [e]
    have := hl.at_ j hj
    split at this
    · rename_i e2
      exact (Maps.has_put_other (key_ne hji) _).trans this
    · rename_i l2 e2
      obtain ⟨h1, A2, c2, h2, h5, h6⟩ := this
      exact ⟨(Maps.has_put_other (key_ne hji) _).trans h1, A2, c2, fun z => (Maps.atKey_put_other (key_ne hji) _ z).trans (h2 z), keep _ _ _ _ h5, h6⟩
/-- More blocks are foreign: those that have come since. -/
theorem OnDisk.widen {w0 : World} (h : OnDisk X w0 d fb lb bb c k) (hb : Below w0.heap.size w0 w) {Y : Nat → Prop} (hXY : ∀ b, X b → Y b) (hY : ∀ b, Y b → X b ∨ (w0.heap.size ≤ b ∧ b < w.heap.size)) : OnDisk Y w d fb lb bb c k := by
  obtain ⟨D, h1, h2⟩ := h.loo
  have h' := h.below hb
  refine { h' with xd := hXY _ h.xd, xf := hXY _ h.xf, xlt := fun b hy => ?_, loo := ⟨D, own_map_block h1 (hb.block _ h1.lt), ⟨fun i hi => ?_, h2.keys⟩⟩ }
  · rcases hY b hy with hx | hx
    · exact h'.xlt b hx
    · exact hx.2
  · have := h2.at_ i hi
    split at this
    · exact this
    · obtain ⟨g1, A, c', g2, g3, g4⟩ := this
      refine ⟨g1, A, c', g2, g3.below hb, fun ad e hy => ?_⟩
      rcases hY _ hy with hx | hx
      · exact g4 ad e hx
      · obtain ⟨ad', e', hc⟩ := g3.at_ (k := 0) (by have := h.s1; omega)
        rw [e] at e'
        cases e'
        have := World.block_lt_of_cell? w0 _ hc
        rw [block_add] at this
        omega
theorem OnDisk.cell (h : OnDisk X w d fb lb bb c k) (i : Nat) : w.cell? ⟨d, i, none⟩ = (k.cells fb lb bb)[i]? := blk_cell h.blk i
theorem OnDisk.frozen (h : OnDisk X w d fb lb bb c k) (i : Nat) : w.frozen? ⟨d, i, none⟩ = false := blk_frozen h.blk i
end
end Go.Proofs.YtaldjmhikebecaaGreat
