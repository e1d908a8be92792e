/- The reference of layer 8: New. -/
import Derived.Test.YtaldjmhikebecaaGreatAlike
import Derived.Deep.RegionLaw
import Derived.Deep.OwnRows
namespace Go.Proofs.YtaldjmhikebecaaGreat
open Go Go.RowKit
set_option maxRecDepth 100000
set_option linter.unusedVariables false
attribute [local go_sem] Oper.semAt_some
theorem info_sec : (Tryz.prog.info? 101).map (fun i => (i.zero, i.size, i.bytes)) = some (some (.agg #[.slice none 0 0, .bool false, .slice none 0 0, .bool false]), 4, 64) := by kernel_rfl
/-- A row of cells, each element `size` of them, new. -/
theorem cells_newS (w : World) (size : Nat) (cs : List Value) (e : TypeId) (n : Nat) (h : cs.length = n * size) (hm : n ≤ maxLen) : Rd (w.alloc (.cells cs.toArray e)) size (some ⟨w.heap.size, 0, none⟩) n n cs := by
  refine ⟨h, Nat.le_refl _, hm, fun _ => ⟨_, rfl, fun j x hx => ?_⟩⟩
  have : (⟨w.heap.size, 0, none⟩ : Addr).add j = ⟨w.heap.size, j, none⟩ := by unfold Addr.add; split <;> simp_all
  rw [this, World.cell?_alloc_at _ _ _ _ rfl]
  simpa using hx
def secCells (A : Option Addr) (s : Nat) : List Value := [.slice A s s, .bool false, .slice none 0 0, .bool false]
/-- The first j sectors of a new disk, as a row's cells. -/
structure NewTo (w : World) (base s j : Nat) (xs : List Value) : Prop where
  len : xs.length = j * 4
  at_ : ∀ i, i < j → ∃ g, base ≤ g ∧ (∀ o v, (secCells (some ⟨g, 0, none⟩) s)[o]? = some v → xs[i * 4 + o]? = some v) ∧ w.heap[g]? = some (.cells (madeCells #[.int .u8 0] s) 5 (0, 0))
theorem NewTo.zero (w : World) (base s : Nat) : NewTo w base s 0 [] := ⟨rfl, fun i h => absurd h (Nat.not_lt_zero i)⟩
theorem NewTo.succ {w w' : World} {base s j : Nat} {xs : List Value} (h : NewTo w base s j xs) (hk : ∀ g, base ≤ g → ∀ c, w.heap[g]? = some (.cells c 5 (0, 0)) → w'.heap[g]? = some (.cells c 5 (0, 0))) (g : Nat) (hg : base ≤ g) (hw : w'.heap[g]? = some (.cells (madeCells #[.int .u8 0] s) 5 (0, 0))) : NewTo w' base s (j + 1) (xs ++ secCells (some ⟨g, 0, none⟩) s) := by
  refine ⟨by simp [h.len, secCells]; omega, fun i hi => ?_⟩
  have hl := h.len
  by_cases hij : i = j
  · subst hij
    refine ⟨g, hg, fun o v hv => ?_, hw⟩
    rw [List.getElem?_append_right (by omega), show i * 4 + o - xs.length = o by omega]
    exact hv
  · obtain ⟨g', h1, h2, h3⟩ := h.at_ i (by omega)
    refine ⟨g', h1, fun o v hv => ?_, hk _ h1 _ h3⟩
    have ho : o < 4 := by
      have := (List.getElem?_eq_some_iff.1 hv).1
      simpa [secCells] using this
    rw [List.getElem?_append_left (by omega)]
    exact h2 o v hv
def MadeRef (X : Nat → Prop) (w : World) (n s : Nat) (e : Ending) (w' : World) : Prop :=
  ∃ r L cap, e = .returned (.tuple #[.pointer (some ⟨r, 0, none⟩), .int .i64 0]) ∧ OnRef (fun b => X b ∨ b = r ∨ b = L) w' r L cap (Dsk.new n s) ∧ (w.heap.size ≤ r ∧ w.heap.size ≤ L) ∧ Below w.heap.size w w'
theorem made_ref {w w' : World} {X : Nat → Prop} (hX : ∀ b, X b → b < w.heap.size) {n s r : Nat} {v : Value} {xs : List Value} (hn1 : 1 ≤ n) (hn2 : n ≤ 65536) (hs1 : 1 ≤ s) (hs2 : s ≤ 8192) (hr : w.heap.size ≤ r)
    (hblk : w'.heap[r]? = some (.cells #[.int .i64 (s : Int), v, .bool false, .int .i64 0] 99 (0, 0))) (hown : w'.ownsRow (r + 1) 101 4 v n xs) (hnew : NewTo w' (r + 1) s n xs) (hb : Below w.heap.size w w') :
    MadeRef X w n s (.returned (.tuple #[.pointer (some ⟨r, 0, none⟩), .int .i64 0])) w' := by
  obtain ⟨hlen, h | ⟨L, cap, cur, rfl, hL, hrow, hncap, hmax, hsz, htake⟩⟩ := hown
  · omega
  have hcell : ∀ j v, j < n * 4 → xs[j]? = some v → w'.cell? ⟨L, j, none⟩ = some v := by
    intro j v hj hv
    rw [blk_cell hrow, ← Array.getElem?_toList]
    rw [← htake, List.getElem?_take, if_pos hj] at hv
    exact hv
  refine ⟨r, L, cap, rfl, ?_, ⟨hr, by omega⟩, hb⟩
  refine { blk := hblk, row := ⟨cur, hrow, hsz⟩, ncap := hncap, mcap := hmax, at_ := fun i hi => ?_, len := by simp [Dsk.new], n1 := hn1, n2 := hn2, s1 := hs1, s2 := hs2, lf := by simp [Dsk.new], xr := .inr (.inl rfl), xL := .inr (.inr rfl), xlt := ?_ }
  · obtain ⟨g, hg, hc, hblkg⟩ := hnew.at_ i hi
    have hi : i < n := hi
    have hgL : g ≠ L := by
      intro e
      rw [e, hrow] at hblkg
      simp at hblkg
    have hz : (Dsk.new n s).at_ i = List.replicate s 0 := by
      have h1 : (i + 1) * s ≤ n * s := Nat.mul_le_mul_right _ hi
      rw [Nat.add_mul, Nat.one_mul] at h1
      simp only [Dsk.at_, Dsk.new, List.drop_replicate, List.take_replicate]
      congr 1
      omega
    refine ⟨⟨some ⟨g, 0, none⟩, s, hcell _ _ (by omega) (hc 0 _ rfl), ?_, ?_⟩, hcell _ _ (by omega) (hc 1 _ rfl), hcell _ _ (by omega) (hc 2 _ rfl), hcell _ _ (by omega) (hc 3 _ rfl)⟩
    · rw [hz]
      have e : (madeCells #[.int .u8 0] s).toList = bytes (List.replicate s 0) := by
        rw [toList_madeCells_one]
        simp [bytes, byt]
      refine ⟨by show (bytes (List.replicate s 0)).length = s * 1; simp [bytes_length], Nat.le_refl _, by show s ≤ maxLen; unfold maxLen; omega, fun _ => ⟨_, rfl, fun j u hu => ?_⟩⟩
      have ea : (⟨g, 0, none⟩ : Addr).add j = ⟨g, j, none⟩ := by unfold Addr.add; split <;> simp_all
      rw [ea, blk_cell hblkg, ← Array.getElem?_toList, e]
      exact hu
    · intro ad e hx
      obtain rfl := Option.some.inj e
      rcases hx with hx | hx | hx
      · have := hX _ hx
        simp only at this
        omega
      · simp only at hx; omega
      · exact hgL hx
  · rintro b (hx | rfl | rfl)
    · exact Nat.lt_of_lt_of_le (hX b hx) hb.size
    · exact blk_lt hblk
    · exact blk_lt hrow
theorem secCells_one (A : Option Addr) (s : Nat) : ∀ u ∈ secCells A s, u.oneCell' = true := by
  intro u hu
  simp only [secCells, List.mem_cons, List.not_mem_nil, or_false] at hu
  rcases hu with rfl | rfl | rfl | rfl <;> rfl
theorem grownBy_set (w : World) (p : Addr) (v : Value) : w.grownBy (w.setCell p v) (some p.block) :=
  ⟨rfl, rfl, rfl, by simp [World.setCell], fun i hi hn => Below.heap_setCell w p v i fun e => hn (by rw [e])⟩
theorem new_round {w wr w5 : World} {s j : Nat} {A' A5 : Option Addr} {c' c5 : Nat} {xs : List Value} (hblk : wr.heap[w.heap.size]? = some (.cells #[.int .i64 (s : Int), .slice A' j c', .bool false, .int .i64 0] 99 (0, 0))) (how : wr.ownsRow (w.heap.size + 1) 101 4 (.slice A' j c') j xs)
    (hnew : NewTo wr (w.heap.size + 1) s j xs) (hbel : Below w.heap.size w wr) (ho5 : w5.ownsRow (w.heap.size + 1) 101 4 (.slice A5 (j + 1) c5) (j + 1) (xs ++ secCells (some ⟨wr.heap.size, 0, none⟩) s))
    (hg5 : Grew ((wr.alloc (.cells (madeCells #[.int .u8 0] s) 5)).alloc (.cells #[.slice (some ⟨wr.heap.size, 0, none⟩) s s, .bool false, .slice none 0 0, .bool false] 101)).drew (.slice A' j c') w5 (.slice A5 (j + 1) c5)) :
    (w5.setCell ⟨w.heap.size, 1, none⟩ (.slice A5 (j + 1) c5)).heap[w.heap.size]? = some (.cells #[.int .i64 (s : Int), .slice A5 (j + 1) c5, .bool false, .int .i64 0] 99 (0, 0)) ∧ (w5.setCell ⟨w.heap.size, 1, none⟩ (.slice A5 (j + 1) c5)).ownsRow (w.heap.size + 1) 101 4 (.slice A5 (j + 1) c5) (j + 1) (xs ++ secCells (some ⟨wr.heap.size, 0, none⟩) s) ∧
      NewTo (w5.setCell ⟨w.heap.size, 1, none⟩ (.slice A5 (j + 1) c5)) (w.heap.size + 1) s (j + 1) (xs ++ secCells (some ⟨wr.heap.size, 0, none⟩) s) ∧ Below w.heap.size w (w5.setCell ⟨w.heap.size, 1, none⟩ (.slice A5 (j + 1) c5)) := by
  have hpre : Below wr.heap.size wr ((wr.alloc (.cells (madeCells #[.int .u8 0] s) 5)).alloc (.cells #[.slice (some ⟨wr.heap.size, 0, none⟩) s s, .bool false, .slice none 0 0, .bool false] 101)).drew := (((Below.refl _ wr).alloc (Nat.le_refl _) _).alloc (by simp) _).drew
  have hz : ((wr.alloc (.cells (madeCells #[.int .u8 0] s) 5)).alloc (.cells #[.slice (some ⟨wr.heap.size, 0, none⟩) s s, .bool false, .slice none 0 0, .bool false] 101)).drew.heap.size = wr.heap.size + 1 + 1 := by simp
  have hrl := blk_lt hblk
  have hwl := hbel.size
  have hps := hpre.size
  have hbw : Below w.heap.size w w5 := hg5.below (hbel.trans (hpre.mono hwl)) (own_below how hpre) (Nat.le_succ _)
  have hne : ∀ b, b < w.heap.size + 1 → some b ≠ (Value.slice A' j c').ownBlock := fun b hb e => by
    have := (own_base how b e.symm).1
    omega
  have hr5 : w5.heap[w.heap.size]? = some (.cells #[.int .i64 (s : Int), .slice A' j c', .bool false, .int .i64 0] 99 (0, 0)) := ((hg5.g.block _ (by omega) (hne _ (by omega))).trans (hpre.block _ hrl)).trans hblk
  refine ⟨blk_set hr5 1 _, ho5.kept (grownBy_set _ _ _) (.inr fun e => ?_), hnew.succ (fun g hg c hc => ?_) _ (by omega) ?_, Below.trans hbw ?_⟩
  · have := (own_base ho5 _ e).1
    simp only at this
    omega
  · have h1 : g < wr.heap.size := blk_lt hc
    rw [Below.heap_setCell _ _ _ _ (by simp; omega), hg5.g.block g (by omega) ?_, hpre.block g h1]
    · exact hc
    · intro e
      obtain ⟨_, h | ⟨L, cap, cur, hv, hL, hrow, _⟩⟩ := how
      · rw [h.1] at e; cases e
      · rw [hv] at e
        simp only [Value.ownBlock, Option.some.injEq] at e
        rw [e, hrow] at hc
        simp at hc
  · rw [Below.heap_setCell _ _ _ _ (by simp; omega), hg5.g.block wr.heap.size (by have := hz; omega) ?_]
    · exact blk_alloc (blk_new wr _) _
    · intro e
      have := (own_base how _ e.symm).2
      omega
  · exact ⟨rfl, rfl, rfl, by simp [World.setCell], fun i hi => Below.heap_setCell _ _ _ i (by simp; omega)⟩
set_option maxHeartbeats 4000000 in
theorem RNew_ok (X : Nat → Prop) (n s : Nat) (w : World) (hX : ∀ b, X b → b < w.heap.size) (hn1 : 1 ≤ n) (hn2 : n ≤ 65536) (hs1 : 1 ≤ s) (hs2 : s ≤ 8192) :
    Calls Tryz.prog 18 #[.int .i64 (n : Int), .int .i64 (s : Int)] w (MadeRef X w n s) := by
  have hmk := run_make_row' (P := Tryz.prog) 51 5 (.int .u8 0) 1 Tryz.underlying51 info_u8 rfl .i64 .i64 s (by omega) (by omega)
  have HX := Lib.hid hX
  clear hX
  go_enter Tryz.func18, Tryz.ntmps18
  go_wp2
  go_loopw [7] (fun i' wr => ∃ (j : Nat) (A' : Option Addr) (c' : Nat) (xs : List Value), j ≤ n ∧ i' = .int .i64 (j : Int) ∧ Hid (wr.heap[w.heap.size]? = some (.cells #[.int .i64 (s : Int), .slice A' j c', .bool false, .int .i64 0] 99 (0, 0))) ∧ Hid (wr.ownsRow (w.heap.size + 1) 101 4 (.slice A' j c') j xs) ∧ Hid (NewTo wr (w.heap.size + 1) s j xs) ∧ Hid (Below w.heap.size w wr)) (fun i' _ => n - (intOf i').toNat)
  case atStart => exact ⟨0, none, 0, [], Nat.zero_le _, rfl, Lib.hid (blk_new w _), Lib.hid (World.ownsRow_nil _ _ _ _), Lib.hid (NewTo.zero _ _ _), Lib.hid ((Below.refl _ _).alloc (Nat.le_refl _) _)⟩
  case round =>
    obtain ⟨j, A', c', xs, hj, rfl, hblk, how, hnew, hbel⟩ := hrel
    by_cases hlt : j < n
    · have r1 : wr.cell? ⟨w.heap.size, 1, none⟩ = some (.slice A' j c') := blk_cell hblk.out 1
      have rf : wr.frozen? ⟨w.heap.size, 1, none⟩ = false := blk_frozen hblk.out 1
      have hrw : w.heap.size < wr.heap.size := blk_lt hblk.out
      have HBR := Lib.hid (show Below wr.heap.size wr ((wr.alloc (.cells (madeCells #[.int .u8 0] s) 5)).alloc (.cells #[.slice (some ⟨wr.heap.size, 0, none⟩) s s, .bool false, .slice none 0 0, .bool false] 101)) from ((Below.refl _ wr).alloc (Nat.le_refl _) _).alloc (by simp) _)
      have HOB := Lib.hid (show ∀ b, (Value.slice A' j c').ownBlock = some b → w.heap.size + 1 ≤ b from fun b hb => (own_base how.out b hb).1)
      have hrd := cells_newS (wr.alloc (.cells (madeCells #[.int .u8 0] s) 5)) 4 (secCells (some ⟨wr.heap.size, 0, none⟩) s) 101 1 rfl (by unfold maxLen; omega)
      rw [World.size_alloc] at hrd
      have HRD := Lib.hid hrd
      clear hrd
      go_wp2
      go_region_law ((refine step_append_rd rfl _ _ _ 101 rfl (.agg #[.slice none 0 0, .bool false, .slice none 0 0, .bool false]) 4 64 Tryz.underlying97 info_sec rfl (by decide) (base := w.heap.size + 1) (n := j) (v := .slice A' j c') (xs := xs) (by exact (how.out.alloc _).alloc _) rfl (by exact HRD.out) rfl (secCells_one _ _) (by omega) (by unfold maxLen; omega) (by simp; omega) (fun A5 c5 w5 ho5 hg5 => ?_); have HO5 := Lib.hid ho5; have HG5 := Lib.hid hg5; have y1 := (hg5.g.cell (a := ⟨w.heap.size, 1, none⟩) (v := .slice A' j c') (by exact cell_keep HBR.out r1) (by intro e; have := HOB.out w.heap.size e.symm; omega)); have f5 : w5.frozen? ⟨w.heap.size, 1, none⟩ = false := ((World.frozen?_of_block (a := ⟨w.heap.size, 1, none⟩) (hg5.g.block w.heap.size (by simp; omega) (by intro e; have := HOB.out w.heap.size e.symm; omega))).trans (by exact (HBR.out.frozen (p := ⟨w.heap.size, 1, none⟩) hrw).trans rf)); clear ho5 hg5))
      all_goals
        go_wp2
        go_roundw
        case rel =>
          obtain ⟨e1, e2, e3, e4⟩ := new_round hblk.out how.out hnew.out hbel.out HO5.out HG5.out
          exact ⟨j + 1, A5, c5, _, by omega, by go_num, Lib.hid e1, Lib.hid e2, Lib.hid e3, Lib.hid e4⟩
        case measure => simp [intOf]; omega
    · obtain rfl : j = n := by omega
      go_wp2
      go_ret2
      exact made_ref HX.out hn1 hn2 hs1 hs2 (Nat.le_refl _) hblk.out how.out hnew.out hbel.out
end Go.Proofs.YtaldjmhikebecaaGreat
