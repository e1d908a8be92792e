/- Layer 9 (super): the row of a superblock's five numbers. -/
import Derived.Test.YtaldjmhikebecaaGreatFrame
import Derived.RangeFuncNested
import Derived.RangeFuncBound
import Derived.RangeFuncCalls
import Derived.RangeFuncLeaves
import Derived.RangeFuncBox
import Derived.Shelf.Abstract
import Derived.Shelf.RegionOpen
import Derived.OwnWalkIn
import Derived.TacticsInMore
import Derived.LoopNIn
import Derived.LoopIn
namespace Go.Proofs.YtaldjmhikebecaaGreat
open Go Go.RowKit
set_option maxRecDepth 100000
attribute [local go_sem] Oper.semAt_some

def upto5 (k : Nat) : List (Fin 5) := (List.finRange 5).take k
theorem upto5_succ (k : Nat) (h : k < 5) : upto5 (k + 1) = upto5 k ++ [⟨k, h⟩] := by
  unfold upto5
  rw [List.take_succ_eq_append_getElem (by simpa using h)]
  simp
theorem mem5 (k : Fin 5) : k ∈ upto5 5 := by unfold upto5; rw [List.take_of_length_le (by simp)]; exact List.mem_finRange k
theorem upto5_length (k : Nat) (h : k ≤ 5) : (upto5 k).length = k := by simp [upto5]; omega
theorem arr5 (bs k : Nat) (h : k < 5) (W : World) : (Instr.index 176 (.agg #[.pointer (some ⟨bs, 1, none⟩), .pointer (some ⟨bs, 2, none⟩), .pointer (some ⟨bs, 3, none⟩), .pointer (some ⟨bs, 4, none⟩), .pointer (some ⟨bs, 5, none⟩)]) (.int .i64 (k : Int))).run Tryz.prog W = .ok (.pointer (some ⟨bs, k + 1, none⟩)) W := by
  rcases k with _ | _ | _ | _ | _ | k
  all_goals first | (exfalso; omega) | kernel_rfl
def eachEnc (bs : Nat) (x : Fin 5) : Array Value := #[.pointer (some ⟨bs, x.val + 1, none⟩)]
theorem each_any (bs : Nat) (w : World) : Calls Tryz.prog 67 #[.pointer (some ⟨bs, 0, none⟩)] w fun e w' => e = .returned (.func (.func 94) #[] #[.pointer (some ⟨w.heap.size, 0, none⟩)]) ∧ w' = w.alloc (.cells #[.pointer (some ⟨bs, 0, none⟩)] 124) := by
  go_enter Tryz.func67, Tryz.ntmps67
  go_wp2
  go_ret
  exact ⟨rfl, rfl⟩
theorem each1_in (n l bb bs : Nat) (hn : 1 ≤ n) (J Jx : List (Fin 5) → World → Prop) (hd : ∀ pre W d, J pre W → J pre (W.drewN d))
    (hY : ∀ pre x W, J pre W → pre.length < 5 → YieldAt Fence.wide (n - 1) Tryz.prog l (eachEnc bs x) W fun e W' =>
      (e = .returned (.bool true) ∧ J (pre ++ [x]) W' ∧ True) ∨ (e = .returned (.bool false) ∧ Jx (pre ++ [x]) W'))
    (W : World) (hBs : W.cell? ⟨bb, 0, none⟩ = some (.pointer (some ⟨bs, 0, none⟩))) (h0 : J [] W) :
    CallsIn Fence.wide n Tryz.prog 94 #[.func (.yield l) #[] #[], .pointer (some ⟨bb, 0, none⟩)] W fun e W' => (∃ v, e = .returned v) ∧
      ((∃ ys, ys = upto5 5 ∧ J ys W') ∨ (∃ pre, pre <+: upto5 5 ∧ Jx pre W')) := by
  refine callsIn_of_wp Tryz.func94 rfl trivial ?_ rfl
  simp only [Tryz.ntmps94, List.size_toArray, List.length_cons, List.length_nil, Nat.reduceAdd, Nat.reduceSub, Array.replicate_succ, Array.replicate_zero, List.push_toArray, List.append_toArray, List.nil_append, List.cons_append]
  gi_wp2
  refine wpIn_wide.2 ?_
  go_quiet (fail)
  gi_wp2
  gi_loopw [21] (fun i wr => ∃ k : Nat, k ≤ 5 ∧ i = .int .i64 k ∧ Hid (J (upto5 k) wr)) (fun i _ => 5 - (intOf i).toNat)
  case atStart => exact ⟨0, by omega, rfl, hd _ _ _ h0⟩
  case round =>
    obtain ⟨k, hk, rfl, hJs⟩ := hrel
    by_cases hlt : k < 5
    · obtain ⟨fn, tmps, assign, body, hy, hR⟩ := hY _ ⟨k, hlt⟩ wr hJs.out (by rw [upto5_length k hk]; exact hlt)
      simp only [eachEnc] at hy
      have ha := arr5 bs k hlt
      gi_wp2
      refine hR.mono ?_
      rintro e W3 (⟨rfl, hJ3, _⟩ | ⟨rfl, hJx3⟩)
      · gi_wp2
        go_roundw
        case rel => exact ⟨k + 1, by omega, by simp, Lib.hid (by rw [upto5_succ k hlt]; exact hJ3)⟩
        case measure => simp [intOf]; omega
      · gi_wp2
        refine bodyPost_ret (results_none rfl _ _ _) rfl ?_
        exact ⟨⟨_, rfl⟩, .inr ⟨_, by rw [← upto5_succ k hlt]; exact List.take_prefix_take_left (by omega), hJx3⟩⟩
    · obtain rfl : k = 5 := by omega
      gi_wp2
      go_end0
      exact ⟨⟨_, rfl⟩, .inl ⟨_, rfl, hJs.out⟩⟩

theorem each_stops (n bb bs : Nat) (hn : 1 ≤ n) (w : World) (hb : w.cell? ⟨bb, 0, none⟩ = some (.pointer (some ⟨bs, 0, none⟩))) :
    SeqStopsK Fence.wide n Tryz.prog 94 #[.pointer (some ⟨bb, 0, none⟩)] (eachEnc bs) (fun _ _ => True) (fun xs => xs = upto5 5) (fun pre => pre <+: upto5 5) 5 w := fun l J Jx W hW hJ _ hY h0 => by
  refine each1_in n l bb bs hn J Jx (fun pre W' d h => ?_) hY W (cell_keep hW hb) h0
  exact hJ pre W' _ none h ⟨rfl, rfl, rfl, Nat.le_refl _, fun _ _ _ => rfl⟩ (fun r e => by cases e)
/-- A superblock's cells. -/
structure Sup where
  serial : Nat
  epoch : Int
  view : Int
  normal : Int
  top : Int
  base : Int
  area : Int
  start : Int
  chain : Nat
deriving DecidableEq
def Sup.cells (s : Sup) : Array Value := #[.int .u64 s.serial, .int .i64 s.epoch, .int .i64 s.view, .int .i64 s.normal, .int .i64 s.top, .int .i64 s.base, .int .i64 s.area, .int .i64 s.start, .int .u32 s.chain]
def Sup.num (s : Sup) (k : Fin 5) : Int := [s.epoch, s.view, s.normal, s.top, s.base].getD k.val 0
def Sup.okNum (x : Int) : Prop := 0 ≤ x ∧ x ≤ 4611686018427387904
/-- May a superblock be? -/
def Sup.ok (s : Sup) : Prop := (∀ k, Sup.okNum (s.num k)) ∧ 0 ≤ s.area ∧ s.area ≤ 1 ∧ 0 ≤ s.start ∧ s.start ≤ 65536
def Sup.bad (s : Sup) : Prop := ¬ ∀ k, Sup.okNum (s.num k)
instance (s : Sup) : Decidable s.ok := by unfold Sup.ok Sup.okNum; infer_instance
theorem own_blk {W W' : World} {row : Option Nat} {b t : Nat} {cs : Array Value} {f : Nat × Nat} (h : W.heap[b]? = some (.cells cs t f)) (hg : W.grownBy W' row) {B : Nat} (hr : ∀ r, row = some r → B ≤ r ∧ ∃ o : Obj, W.heap[r]? = some o ∧ o.isCells = false) : W'.heap[b]? = some (.cells cs t f) := by
  refine (hg.block b (blk_lt h) ?_).trans h
  intro e
  obtain ⟨_, o, ho, hc⟩ := hr b e.symm
  rw [h] at ho
  cases ho
  cases hc
theorem own_bel {w W W' : World} {row : Option Nat} (h : Below w.heap.size w W) (hg : W.grownBy W' row) {B : Nat} (hB : w.heap.size ≤ B) (hr : ∀ r, row = some r → B ≤ r ∧ ∃ o : Obj, W.heap[r]? = some o ∧ o.isCells = false) : Below w.heap.size w W' :=
  h.grown hg h.size fun k hk => Nat.le_trans hB (hr k hk).1
theorem num_cell (s : Sup) (x : Fin 5) : s.cells[x.val + 1]? = some (.int .i64 (s.num x)) := by
  match x with
  | ⟨0, _⟩ => rfl
  | ⟨1, _⟩ => rfl
  | ⟨2, _⟩ => rfl
  | ⟨3, _⟩ => rfl
  | ⟨4, _⟩ => rfl
theorem num_at {s : Sup} {W : World} {bs : Nat} (h : W.heap[bs]? = some (.cells s.cells 30 (0, 0))) (x : Fin 5) : W.cell? ⟨bs, x.val + 1, none⟩ = some (.int .i64 (s.num x)) := (blk_cell h _).trans (num_cell s x)

def chkAct (s : Sup) (bs : Nat) (x : Fin 5) : Act := { tmps := #[.agg s.cells, .pointer (some ⟨bs, 0, none⟩), .pointer (some ⟨bs + 1, 0, none⟩), .pointer (some ⟨bs, x.val + 1, none⟩), .func (.func 94) #[] #[.pointer (some ⟨bs + 1 + 1, 0, none⟩)], .pointer (some ⟨bs, x.val + 1, none⟩), undef, undef, undef, undef, undef, undef, undef, undef, undef, undef, undef, undef, undef, undef, undef, undef, undef, undef, undef, undef, undef, undef, undef, undef, undef, undef, undef, undef], defers := [] }
def chk (s : Sup) : Int := if s.ok then 0 else 90
def RetI (w : World) (c : Int) (e : Ending) (w' : World) : Prop := e = .returned (.int .i64 c) ∧ Below w.heap.size w w'
theorem chk_leave {w W : World} {D : Nat} {tmps : Array Value} {c : Int} (hb : W.heap[w.heap.size + 1]? = some (.cells #[.int .i64 c] 34 (0, 0))) (hbel : Below w.heap.size w W) (hK : W.heap[D]? = some (.deferred (some []))) (hD : w.heap.size ≤ D)
    (ht : tmps.getD 2 undef = .pointer (some ⟨w.heap.size + 1, 0, none⟩)) : LeavesInM Fence.wide 9 Tryz.prog Tryz.f66 tmps (RetI w c) [] FrameMode.returning (W.putObj D (.deferred none)) := by
  have hg := grownBy_putObj' W D (.deferred none)
  have hr : ∀ r, some D = some r → w.heap.size ≤ r ∧ ∃ o : Obj, W.heap[r]? = some o ∧ o.isCells = false := fun r e => by cases e; exact ⟨hD, _, hK, rfl⟩
  have hb2 := own_blk hb hg hr
  have hc := blk_cell hb2 0
  simp only [List.getElem?_toArray, List.getElem?_cons_zero] at hc
  have ht' : tmps[2]?.getD undef = .pointer (some ⟨w.heap.size + 1, 0, none⟩) := by simpa using ht
  refine ⟨.int .i64 c, ?_, rfl, own_bel hbel hg (Nat.le_refl _) hr⟩
  simp [results, Tryz.results66, go_sem, hc, ht']
theorem Check_any (s : Sup) (w : World) :
    Calls Tryz.prog 66 #[.agg s.cells] w (RetI w (chk s)) := by
  refine callsIn_wide.1 (callsIn_of_wp_marks (n := 9) Tryz.func66 rfl trivial ?_ rfl)
  simp only [Tryz.ntmps66, List.size_toArray, List.length_cons, List.length_nil, Nat.reduceAdd, Nat.reduceSub, Array.replicate_succ, Array.replicate_zero, List.push_toArray, List.append_toArray, List.nil_append, List.cons_append]
  gi_wp2_with (refine ⟨trivial, ?_⟩; gi_at_call 67; refine (callsIn_wide.2 (each_any _ _)).mono ?_; rintro e w' ⟨rfl, rfl⟩)
  have hb1 := blk_alloc (blk_alloc (blk_new w (.cells s.cells 30)) (.cells #[.int .i64 0] 34)) (.cells #[.pointer (some ⟨w.heap.size, 0, none⟩)] 124)
  have hb2 := blk_alloc (blk_new (w.alloc (.cells s.cells 30)) (.cells #[.int .i64 0] 34)) (.cells #[.pointer (some ⟨w.heap.size, 0, none⟩)] 124)
  have hb3 := blk_cell (blk_new ((w.alloc (.cells s.cells 30)).alloc (.cells #[.int .i64 0] 34)) (.cells #[.pointer (some ⟨w.heap.size, 0, none⟩)] 124)) 0
  have hbel : Below w.heap.size w (((w.alloc (.cells s.cells 30)).alloc (.cells #[.int .i64 0] 34)).alloc (.cells #[.pointer (some ⟨w.heap.size, 0, none⟩)] 124)) := by go_grown
  simp only [World.size_alloc] at hb2 hb3
  have hsz : w.heap.size + 2 ≤ (((w.alloc (.cells s.cells 30)).alloc (.cells #[.int .i64 0] 34)).alloc (.cells #[.pointer (some ⟨w.heap.size, 0, none⟩)] 124)).heap.size := by simp
  generalize ((w.alloc (.cells s.cells 30)).alloc (.cells #[.int .i64 0] 34)).alloc (.cells #[.pointer (some ⟨w.heap.size, 0, none⟩)] 124) = W0 at hb1 hb2 hb3 hbel hsz ⊢
  refine wpIn_rangeFunc_ownF (w := W0) rfl (by omega) (gf := 94) (lb := #[.pointer (some ⟨w.heap.size + 1 + 1, 0, none⟩)]) rfl trivial (enters_of Tryz.func94 (by kernel_rfl) rfl)
    (each_stops 8 (w.heap.size + 1 + 1) w.heap.size (by omega) W0 hb3) (fun _ _ => trivial) (fun _ _ _ _ _ _ _ _ => trivial) (Below.refl _ _) (fun _ => rfl)
    (fun pre W => (W.heap[w.heap.size]? = some (.cells s.cells 30 (0, 0)) ∧ W.heap[w.heap.size + 1]? = some (.cells #[.int .i64 0] 34 (0, 0)) ∧ Below w.heap.size w W) ∧ ∀ k ∈ pre, Sup.okNum (s.num k))
    (fun c _ W => (W.heap[w.heap.size + 1]? = some (.cells #[.int .i64 90] 34 (0, 0)) ∧ Below w.heap.size w W) ∧ c = .ret ∧ s.bad)
    (fun pre A B row hs hg hr => ⟨⟨own_blk hs.1.1 hg hr, own_blk hs.1.2.1 hg hr, own_bel hs.1.2.2 hg (by omega) hr⟩, hs.2⟩)
    (fun c pre A B row hs hg hr => ⟨⟨own_blk hs.1.1 hg hr, own_bel hs.1.2 hg (by omega) hr⟩, hs.2⟩)
    ⟨⟨hb1, hb2, hbel⟩, fun _ h => by cases h⟩ (chkAct s w.heap.size) ?assign ?body ?done ?stop
  case assign =>
    intro l x W K hK
    simp only [eachEnc]
    gi_wp2
    exact hK
  case body =>
    rintro l pre x W ⟨⟨h1, h2, h3⟩, h4⟩ _
    have hx := num_at h1 x
    have hr0 := blk_cell h2 0
    have hrf := blk_frozen h2 0
    simp only [List.getElem?_toArray, List.getElem?_cons_zero] at hr0
    by_cases hok : Sup.okNum (s.num x)
    · have ho1 : ¬ s.num x < 0 := by have := hok.1; omega
      have ho2 : ¬ 4611686018427387904 < s.num x := by have := hok.2; omega
      unfold chkAct
      generalize s.num x = y at hx ho1 ho2
      gi_wp2
      refine ⟨KeepsOthers.refl _, trivial, ⟨h1, h2, h3⟩, fun k hk => ?_⟩
      rcases List.mem_append.1 hk with hk | hk
      · exact h4 k hk
      · have : k = x := by simpa using hk
        subst this
        exact hok
    · have hno : Hid s.bad := Lib.hid (fun h => hok (h x))
      by_cases ho1 : s.num x < 0
      · unfold chkAct
        generalize s.num x = y at hx ho1
        gi_wp2
        exact ⟨KeepsOthers.setCell _ _ _, ⟨by simpa using blk_set h2 0 (.int .i64 90), h3.setCell (by simp) _⟩, rfl, hno.out⟩
      · have ho2 : 4611686018427387904 < s.num x := by
          rcases Int.lt_or_le 4611686018427387904 (s.num x) with h | h
          · exact h
          · exact absurd ⟨by omega, h⟩ hok
        unfold chkAct
        generalize s.num x = y at hx ho1 ho2
        gi_wp2
        exact ⟨KeepsOthers.setCell _ _ _, ⟨by simpa using blk_set h2 0 (.int .i64 90), h3.setCell (by simp) _⟩, rfl, hno.out⟩
  case done =>
    rintro D ys W hD rfl ⟨⟨h1, h2, h3⟩, h4⟩ hK
    have hall : Hid (∀ k, Sup.okNum (s.num k)) := Lib.hid (fun k => h4 k (mem5 k))
    have hc6 := blk_cell h1 6
    have hc7 := blk_cell h1 7
    have hr0 := blk_cell h2 0
    have hrf := blk_frozen h2 0
    simp only [List.getElem?_toArray, List.getElem?_cons_zero] at hr0
    simp only [Sup.cells] at hc6 hc7
    by_cases ha : 0 ≤ s.area ∧ s.area ≤ 1 ∧ 0 ≤ s.start ∧ s.start ≤ 65536
    · have hfin : Hid (chk s = 0) := Lib.hid (if_pos ⟨hall.out, ha⟩)
      clear h4
      gi_wp2
      have hK2 := (KeepsOthers.setCell W ⟨w.heap.size + 1, 0, none⟩ (.int .i64 0)).same D _ hK rfl
      refine ⟨by simp, .inl ⟨_, _, rfl, run_takeDeferred hK2, ?_⟩⟩
      rw [hfin.out]
      exact chk_leave (by simpa using blk_set h2 0 (.int .i64 0)) (h3.setCell (by simp) _) hK2 (by omega) rfl
    · have hfin : Hid (chk s = 90) := Lib.hid (if_neg (fun h => ha h.2))
      clear h4
      have hcase : s.area < 0 ∨ (0 ≤ s.area ∧ 1 < s.area) ∨ (0 ≤ s.area ∧ s.area ≤ 1 ∧ s.start < 0) ∨ (0 ≤ s.area ∧ s.area ≤ 1 ∧ 0 ≤ s.start ∧ 65536 < s.start) := by omega
      clear ha
      have hK2 := (KeepsOthers.setCell W ⟨w.heap.size + 1, 0, none⟩ (.int .i64 90)).same D _ hK rfl
      rcases hcase with hcase | hcase | hcase | hcase
      all_goals
        gi_wp2
        refine ⟨by simp, .inl ⟨_, _, rfl, run_takeDeferred hK2, ?_⟩⟩
        rw [hfin.out]
        exact chk_leave (by simpa using blk_set h2 0 (.int .i64 90)) (h3.setCell (by simp) _) hK2 (by omega) rfl
  case stop =>
    rintro D c pre W hD _ ⟨⟨h1, h2⟩, rfl, h4⟩ hK
    have hfin : Hid (chk s = 90) := Lib.hid (if_neg (fun h => h4 h.1))
    gi_wp2
    refine ⟨by simp, .inl ⟨_, _, rfl, run_takeDeferred hK, ?_⟩⟩
    rw [hfin.out]
    exact chk_leave h1 h2 hK (by omega) rfl
end Go.Proofs.YtaldjmhikebecaaGreat
