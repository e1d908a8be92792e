/- The reference of layer 8: its disk in memory; Fuse, power, Loose, Read. -/
import Derived.Test.YtaldjmhikebecaaGreatCrash
namespace Go.Proofs.YtaldjmhikebecaaGreat
open Go Go.RowKit
set_option maxRecDepth 100000
set_option linter.unusedVariables false
attribute [local go_sem] Oper.semAt_some
structure RAt (X : Nat → Prop) (w : World) (L : Nat) (k : Dsk) (i : Nat) : Prop where
  f : ∃ A c, w.cell? ⟨L, i * 4, none⟩ = some (.slice A k.size c) ∧ Bs w A k.size c (k.at_ i) ∧ ∀ ad, A = some ad → ¬ X ad.block
  l : w.cell? ⟨L, i * 4 + 1, none⟩ = some (.bool (k.loose i).isSome)
  nw : match k.loose i with
    | none => w.cell? ⟨L, i * 4 + 2, none⟩ = some (.slice none 0 0)
    | some l => ∃ A c, w.cell? ⟨L, i * 4 + 2, none⟩ = some (.slice A k.size c) ∧ Bs w A k.size c l ∧ ∀ ad, A = some ad → ¬ X ad.block
  b : w.cell? ⟨L, i * 4 + 3, none⟩ = some (.bool (k.bad i))
structure OnRef (X : Nat → Prop) (w : World) (r L cap : Nat) (k : Dsk) : Prop where
  blk : w.heap[r]? = some (.cells #[.int .i64 (k.size : Int), .slice (some ⟨L, 0, none⟩) k.n cap, .bool k.set, .int .i64 (k.left : Int)] 99 (0, 0))
  row : ∃ cur, w.heap[L]? = some (.cells cur 101 (0, 0)) ∧ cur.size = cap * 4
  ncap : k.n ≤ cap
  mcap : cap ≤ maxLen
  at_ : ∀ i, i < k.n → RAt X w L k i
  len : k.fast.length = k.n * k.size
  n1 : 1 ≤ k.n
  n2 : k.n ≤ 65536
  s1 : 1 ≤ k.size
  s2 : k.size ≤ 8192
  lf : k.left ≤ 9223372036854775807
  xr : X r
  xL : X L
  xlt : ∀ b, X b → b < w.heap.size
section
variable {w w' : World} {r L cap : Nat} {k : Dsk} {X : Nat → Prop}
theorem RAt.kept {i : Nat} (h : RAt X w L k i) (hL : ∀ o, w'.cell? ⟨L, o, none⟩ = w.cell? ⟨L, o, none⟩) (hb : ∀ A n c l, Bs w A n c l → (∀ ad, A = some ad → ¬ X ad.block) → Bs w' A n c l) : RAt X w' L k i := by
  obtain ⟨A, c, h1, h2, h3⟩ := h.f
  refine ⟨⟨A, c, (hL _).trans h1, hb _ _ _ _ h2 h3, h3⟩, (hL _).trans h.l, ?_, (hL _).trans h.b⟩
  have := h.nw
  split at this
  · exact (hL _).trans this
  · obtain ⟨A, c, h1, h2, h3⟩ := this
    exact ⟨A, c, (hL _).trans h1, hb _ _ _ _ h2 h3, h3⟩
theorem OnRef.kept {S : Nat → Prop} (h : OnRef X w r L cap k) (t : Touch S w w') (hr : ¬ S r) (hL : ¬ S L) (hs : ∀ i, S i → NoByte w i ∨ X i) : OnRef X w' r L cap k := by
  obtain ⟨cur, h1, h2⟩ := h.row
  have hl : w'.heap[L]? = w.heap[L]? := (t.block L (blk_lt h1) hL)
  refine { h with xlt := fun b hb => Nat.lt_of_lt_of_le (h.xlt b hb) t.size, blk := t.blk h.blk hr, row := ⟨cur, hl.trans h1, h2⟩, at_ := fun i hi => (h.at_ i hi).kept (fun o => ?_) ?_ }
  · unfold World.cell?; rw [hl]
  · intro A n c l hB hA
    refine ⟨hB.1, hB.2.1, hB.2.2.1, fun h0 => ?_⟩
    obtain ⟨ad, e, hc⟩ := hB.2.2.2 h0
    refine ⟨ad, e, fun j u hu => t.cell (hc j u hu) ?_⟩
    rw [block_add]
    intro hS
    obtain ⟨x, hx⟩ : ∃ x, u = .int .u8 x := by
      have := List.mem_of_getElem? hu
      simp only [bytes, List.mem_map] at this
      obtain ⟨y, _, rfl⟩ := this
      exact ⟨_, rfl⟩
    rcases hs _ hS with h5 | h5
    · exact h5 (ad.add j) (block_add _ _) x (hx ▸ hc j u hu)
    · exact hA ad e h5
theorem OnRef.below (h : OnRef X w r L cap k) (t : Below w.heap.size w w') : OnRef X w' r L cap k :=
  h.kept (S := fun _ => False) (Touch.of_below t) (fun h => h) (fun h => h) (fun _ h => h.elim)
theorem OnRef.alloc (h : OnRef X w r L cap k) (o : Obj) : OnRef X (w.alloc o) r L cap k := h.below ((Below.refl _ _).alloc (Nat.le_refl _) o)
theorem OnRef.ne (h : OnRef X w r L cap k) : r ≠ L := by
  obtain ⟨cur, h1, _⟩ := h.row
  intro e
  have := h.blk
  rw [e, h1] at this
  simp at this
theorem OnRef.nobyte (h : OnRef X w r L cap k) : NoByte w r := noByte_cells h.blk (by intro v; simp)
/-- The disk's own block is written: only its two cells for the power may turn. -/
theorem OnRef.turn (h : OnRef X w r L cap k) (k' : Dsk) (e : k' = { k with set := k'.set, left := k'.left }) (hlf : k'.left ≤ 9223372036854775807) (t : Touch (· = r) w w') (hd : w'.heap[r]? = some (.cells #[.int .i64 (k'.size : Int), .slice (some ⟨L, 0, none⟩) k'.n cap, .bool k'.set, .int .i64 (k'.left : Int)] 99 (0, 0))) : OnRef X w' r L cap k' := by
  obtain ⟨cur, h1, h2⟩ := h.row
  have hne := h.ne
  have hl : w'.heap[L]? = w.heap[L]? := (t.block L (blk_lt h1) (Ne.symm hne))
  have hat : ∀ i, i < k.n → RAt X w' L k i := fun i hi => (h.at_ i hi).kept (fun o => by unfold World.cell?; rw [hl]) fun A n c l hB hA => t.bs hB fun ad e2 e3 => hA ad e2 (e3 ▸ h.xr)
  rw [e]
  exact { blk := by rw [← e]; exact hd, row := ⟨cur, hl.trans h1, h2⟩, ncap := h.ncap, mcap := h.mcap, at_ := fun i hi => ⟨(hat i hi).f, (hat i hi).l, (hat i hi).nw, (hat i hi).b⟩, len := h.len, n1 := h.n1, n2 := h.n2, s1 := h.s1, s2 := h.s2, lf := hlf, xr := h.xr, xL := h.xL, xlt := fun b hb => Nat.lt_of_lt_of_le (h.xlt b hb) t.size }
theorem RFuse_ok (h : OnRef X w r L cap k) (x : Int) (hx : -9223372036854775808 ≤ x ∧ x ≤ 9223372036854775807) : Calls Tryz.prog 55 #[.pointer (some ⟨r, 0, none⟩), .int .i64 x] w fun e w' =>
    (∃ v, e = .returned v) ∧ OnRef X w' r L cap { k with set := decide (0 ≤ x), left := x.toNat } ∧ Touch (· = r) w w' := by
  have c2 : w.cell? ⟨r, 2, none⟩ = some (.bool k.set) := blk_cell h.blk 2
  have c3 : w.cell? ⟨r, 3, none⟩ = some (.int .i64 (k.left : Int)) := blk_cell h.blk 3
  have f2 : w.frozen? ⟨r, 2, none⟩ = false := blk_frozen h.blk 2
  have f3 : w.frozen? ⟨r, 3, none⟩ = false := blk_frozen h.blk 3
  have HD := Lib.hid h
  have HX := Lib.hid hx
  clear h hx
  go_enter Tryz.func55, Tryz.ntmps55
  go_wp2
  go_end0
  refine ⟨⟨_, rfl⟩, HD.out.turn { k with set := decide (0 ≤ x), left := x.toNat } rfl (by have := HX.out; simp only; omega) ((Touch.of_set (S := (· = r)) w (p := ⟨r, 2, none⟩) _ rfl).trans (Touch.of_set _ (p := ⟨r, 3, none⟩) _ rfl)) ?_, (Touch.of_set (S := (· = r)) w (p := ⟨r, 2, none⟩) _ rfl).trans (Touch.of_set _ (p := ⟨r, 3, none⟩) _ rfl)⟩
  have e : (max x 0 : Int) = ((x.toNat : Nat) : Int) := (Int.ofNat_toNat x).symm
  simp only [e]
  exact blk_set (blk_set HD.out.blk 2 _) 3 _
/-- The reference takes one off the fuse only where it is set. -/
def Dsk.rless (k : Dsk) : Dsk := if k.set then { k with left := k.left - 1 } else k
theorem Rpower_ok (h : OnRef X w r L cap k) : Calls Tryz.prog 53 #[.pointer (some ⟨r, 0, none⟩)] w fun e w' =>
    e = .returned (.bool (decide k.on)) ∧ OnRef X w' r L cap (if k.on then k.rless else k) ∧ Touch (· = r) w w' := by
  have c2 : w.cell? ⟨r, 2, none⟩ = some (.bool k.set) := blk_cell h.blk 2
  have c3 : w.cell? ⟨r, 3, none⟩ = some (.int .i64 (k.left : Int)) := blk_cell h.blk 3
  have f3 : w.frozen? ⟨r, 3, none⟩ = false := blk_frozen h.blk 3
  have HD := Lib.hid h
  have hlf := h.lf
  clear h
  cases hs : k.set with
  | false =>
    have hon : k.on := by unfold Dsk.on; rw [hs]; simp
    have HON := Lib.hid hon
    rw [hs] at c2
    have HS := Lib.hid hs
    clear hs hon
    go_enter Tryz.func53, Tryz.ntmps53
    go_wp2
    go_ret
    refine ⟨by first | rfl | (rw [decide_eq_true HON.out]; rfl), ?_, Touch.refl _ _⟩
    try rw [if_pos HON.out]
    rw [Dsk.rless, HS.out]
    exact HD.out
  | true =>
    rw [hs] at c2
    rcases Nat.eq_zero_or_pos k.left with h0 | h0
    · have HON := Lib.hid (show ¬ k.on from by unfold Dsk.on; rw [hs, h0]; simp)
      rw [h0] at c3
      clear hs h0
      go_enter Tryz.func53, Tryz.ntmps53
      go_wp2
      go_ret
      refine ⟨by first | rfl | (rw [decide_eq_false HON.out]; rfl), ?_, Touch.refl _ _⟩
      try rw [if_neg HON.out]
      exact HD.out
    · have HON := Lib.hid (show k.on from by unfold Dsk.on; rw [hs]; simp; omega)
      have HS := Lib.hid hs
      have hz : ((k.left : Int) == 0) = false := by rw [beq_eq_false_iff_ne]; omega
      obtain ⟨y, hy⟩ : ∃ y : Nat, y = k.left - 1 := ⟨_, rfl⟩
      have hw : IntKind.i64.wrap ((k.left : Int) - 1) = (y : Int) := by rw [IntKind.wrap_i64]; omega
      have HY := Lib.hid hy
      clear hs h0 hy
      go_enter Tryz.func53, Tryz.ntmps53
      go_wp2
      go_ret
      refine ⟨by first | rfl | (rw [decide_eq_true HON.out]; rfl), ?_, Touch.of_set (S := (· = r)) w (p := ⟨r, 3, none⟩) _ rfl⟩
      try rw [if_pos HON.out]
      rw [show k.rless = { k with left := y } from by rw [Dsk.rless, if_pos HS.out, ← HY.out]]
      exact HD.out.turn { k with left := y } rfl (by have := HY.out; simp only; omega) (Touch.of_set (S := (· = r)) w (p := ⟨r, 3, none⟩) _ rfl) (blk_set HD.out.blk 3 _)
end
end Go.Proofs.YtaldjmhikebecaaGreat
