/- Layer 9 (super): Decode. -/
import Derived.Test.YtaldjmhikebecaaGreatSupE
import Derived.Test.YtaldjmhikebecaaGreatFrameR
import Derived.Test.YtaldjmhikebecaaGreatStore
namespace Go.Proofs.YtaldjmhikebecaaGreat
open Go Go.RowKit
set_option maxRecDepth 100000
set_option linter.unusedVariables false
attribute [local go_sem] Oper.semAt_some

theorem bel_in {w W W' : World} {o o' : Obj} (h : Below (w.alloc o).heap.size (w.alloc o) W) (k : W' = W.alloc o' := by rfl) : Below w.heap.size w W' := by
  subst k
  have h1 := Below.trans ((Below.refl _ _).alloc (Nat.le_refl _) _) (h.mono (by simp))
  exact h1.alloc h1.size _
theorem grown_bel {w W W' : World} {b : Nat} (h : Below w.heap.size w W) (hg : W.grownBy W' (some b)) (hb : w.heap.size ≤ b) : Below w.heap.size w W' :=
  h.grown hg h.size fun k hk => by cases hk; exact hb
def Sup.zero : Sup := ⟨0, 0, 0, 0, 0, 0, 0, 0, 0⟩
/-- The k-th number of a superblock's body. -/
def numAt (b : List UInt8) (k : Nat) : Nat := unle ((b.drop (k * 8)).take 8)
def lowAt (b : List UInt8) (k : Nat) : Nat := unle ((b.drop (40 + k * 4)).take 4)
def supOf (ser : Nat) (b : List UInt8) : Sup := ⟨ser, numAt b 0, numAt b 1, numAt b 2, numAt b 3, numAt b 4, lowAt b 0, lowAt b 1, lowAt b 2⟩
def decode (l : List UInt8) : Sup × Int :=
  match readF l with
  | .err c => (Sup.zero, c)
  | .ok k ser b => if k = 1 ∧ b.length = 52 then (if (supOf ser b).ok then (supOf ser b, 0) else (Sup.zero, 90)) else (Sup.zero, 90)
def RetS (w : World) (r : Sup × Int) (e : Ending) (w' : World) : Prop := e = .returned (.tuple #[.agg r.1.cells, .int .i64 r.2]) ∧ Below w.heap.size w w'

/-- What the rounds make of a superblock. -/
def Sup.set (s : Sup) (x : Fin 5) (v : Nat) : Sup :=
  let u : Int := if v ≤ 4611686018427387904 then v else -1
  match x with
  | ⟨0, _⟩ => { s with epoch := u }
  | ⟨1, _⟩ => { s with view := u }
  | ⟨2, _⟩ => { s with normal := u }
  | ⟨3, _⟩ => { s with top := u }
  | ⟨4, _⟩ => { s with base := u }
def decSt (b : List UInt8) (s0 : Sup) : List (Fin 5) → Nat → Sup
  | [], _ => s0
  | x :: pre, j => decSt b (s0.set x (numAt b j)) pre (j + 1)
theorem decSt_snoc (b : List UInt8) (x : Fin 5) : ∀ (pre : List (Fin 5)) (s0 : Sup) (j : Nat), decSt b s0 (pre ++ [x]) j = (decSt b s0 pre j).set x (numAt b (j + pre.length))
  | [], s0, j => rfl
  | y :: pre, s0, j => by
    simp only [List.cons_append, decSt, List.length_cons]
    rw [decSt_snoc b x pre, show j + 1 + pre.length = j + (pre.length + 1) from by omega]
theorem set_cells (s : Sup) (x : Fin 5) (v : Nat) : (s.set x v).cells = s.cells.setIfInBounds (x.val + 1) (.int .i64 (if v ≤ 4611686018427387904 then (v : Int) else -1)) := by
  match x with
  | ⟨0, _⟩ => rfl
  | ⟨1, _⟩ => rfl
  | ⟨2, _⟩ => rfl
  | ⟨3, _⟩ => rfl
  | ⟨4, _⟩ => rfl
theorem cells_set_twice (s : Sup) (x : Fin 5) (u v : Value) : (s.cells.setIfInBounds (x.val + 1) u).setIfInBounds (x.val + 1) v = s.cells.setIfInBounds (x.val + 1) v := by
  match x with
  | ⟨0, _⟩ => rfl
  | ⟨1, _⟩ => rfl
  | ⟨2, _⟩ => rfl
  | ⟨3, _⟩ => rfl
  | ⟨4, _⟩ => rfl
set_option maxHeartbeats 4000000 in
theorem Decode_err (A : Option Addr) (n c : Nat) (l : List UInt8) (w : World) (h : Bs w A n c l) (code : Int) (hc0 : code ≠ 0) (hr : readF l = .err code) :
    Calls Tryz.prog 46 #[.slice A n c] w (RetS w (Sup.zero, code)) := by
  have hz := Lib.hid (show Sup.zero.cells = #[.int .u64 0, .int .i64 0, .int .i64 0, .int .i64 0, .int .i64 0, .int .i64 0, .int .i64 0, .int .i64 0, .int .u32 0] from rfl)
  have hb : (code == 0) = false := by rw [beq_eq_false_iff_ne]; exact hc0
  have hread := Lib.hid (fun (W : World) (hW : Bs W A n c l) => Read_any A n c l 0 0 W hW rfl (Nat.zero_le _))
  have H := Lib.hid h
  have HR := Lib.hid hr
  clear hc0 hr h
  go_enter Tryz.func46, Tryz.ntmps46
  go_wp2_with (first
    | (go_at_call 74; go_must (refine (hread.out _ (H.out.alloc _)).mono ?_; simp only [List.drop_zero, HR.out, RetF]; rintro e wx ⟨rfl, hbx⟩; have HB := Lib.hid hbx; have HX := Lib.hid (blk_below (blk_new _ _) hbx); clear hbx; have hsz := blk_lt HX.out))
    | (refine wpList_store_blk rfl 30 _ _ rfl (b := w.heap.size) rfl rfl _ rfl rfl (by decide) (blk_alloc HX.out _) rfl ?_; go_must (intro w2 hb2 hg2 hz2)))
  refine bodyPost_ret (results_blk 2 3 30 rfl rfl rfl _ rfl rfl (fun _ => by simp [go_sem, isAgg]) hb2) rfl ⟨?_, ?_⟩
  · simp only [hz.out]; rfl
  · exact grown_bel (bel_in HB.out) hg2 (Nat.le_refl _)
theorem Decode_bad (A : Option Addr) (n c : Nat) (l : List UInt8) (w : World) (h : Bs w A n c l) (k : UInt8) (ser : Nat) (b : List UInt8) (hr : readF l = .ok k ser b) (hbad : ¬ (k = 1 ∧ b.length = 52)) :
    Calls Tryz.prog 46 #[.slice A n c] w (RetS w (Sup.zero, 90)) := by
  have hz := Lib.hid (show Sup.zero.cells = #[.int .u64 0, .int .i64 0, .int .i64 0, .int .i64 0, .int .i64 0, .int .i64 0, .int .i64 0, .int .i64 0, .int .u32 0] from rfl)
  have hread := Lib.hid (fun (W : World) (hW : Bs W A n c l) => Read_any A n c l 0 0 W hW rfl (Nat.zero_le _))
  have H := Lib.hid h
  have HR := Lib.hid hr
  have hbad := Lib.hid hbad
  clear hr h
  have hcase : ((k.toNat : Int) == 1) = false ∨ (((k.toNat : Int) == 1) = true ∧ Hid (b.length ≠ 52)) := by
    by_cases hk : k = 1
    · subst hk
      exact .inr ⟨rfl, Lib.hid fun e => hbad.out ⟨rfl, e⟩⟩
    · refine .inl ?_
      rw [beq_eq_false_iff_ne]
      intro e
      apply hk
      apply UInt8.toNat_inj.1
      simp only [UInt8.toNat_one]
      omega
  rcases hcase with hk | ⟨hk, hlen⟩
  · go_enter Tryz.func46, Tryz.ntmps46
    go_wp2_with (first
      | (go_at_call 74; go_must (refine (hread.out _ (H.out.alloc _)).mono ?_; simp only [List.drop_zero, HR.out, RetF]; rintro e wx ⟨A3, nn, c3, rfl, hbb, hdd, hbx⟩; have HB := Lib.hid hbx; have HX := Lib.hid (blk_below (blk_new _ _) hbx); clear hbx hbb hdd; have hsz := blk_lt HX.out))
      | (refine wpList_store_blk rfl 30 _ _ rfl (b := w.heap.size) rfl rfl _ rfl rfl (by decide) (blk_alloc HX.out _) rfl ?_; go_must (intro w2 hb2 hg2 hz2)))
    refine bodyPost_ret (results_blk 2 3 30 rfl rfl rfl _ rfl rfl (fun _ => by simp [go_sem, isAgg]) hb2) rfl ⟨?_, ?_⟩
    · simp only [hz.out]; rfl
    · exact grown_bel (bel_in HB.out) hg2 (Nat.le_refl _)
  · go_enter Tryz.func46, Tryz.ntmps46
    go_wp2_with (first
      | (go_at_call 74; go_must (refine (hread.out _ (H.out.alloc _)).mono ?_; simp only [List.drop_zero, HR.out, RetF]; rintro e wx ⟨A3, nn, c3, rfl, hbb, hdd, hbx⟩; have hn : ((nn : Int) == 52) = false := (by rw [beq_eq_false_iff_ne]; intro e; exact hlen.out (by have := hbb.len; omega)); have HB := Lib.hid hbx; have HX := Lib.hid (blk_below (blk_new _ _) hbx); clear hbx hbb hdd; have hsz := blk_lt HX.out))
      | (refine wpList_store_blk rfl 30 _ _ rfl (b := w.heap.size) rfl rfl _ rfl rfl (by decide) (blk_alloc HX.out _) rfl ?_; go_must (intro w2 hb2 hg2 hz2)))
    all_goals
      refine bodyPost_ret (results_blk 2 3 30 rfl rfl rfl _ rfl rfl (fun _ => by simp [go_sem, isAgg]) hb2) rfl ⟨?_, ?_⟩
      · simp only [hz.out]; rfl
      · exact grown_bel (bel_in HB.out) hg2 (Nat.le_refl _)
end Go.Proofs.YtaldjmhikebecaaGreat
