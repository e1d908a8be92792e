/- slices.Chunk over bytes whose number is a multiple. -/
import Derived.Test.YtaldjmhikebecaaGreatDisk
import Derived.RangeFuncWrites
namespace Go.Proofs.YtaldjmhikebecaaGreat
open Go Go.RowKit
set_option maxRecDepth 100000
set_option linter.unusedVariables false
attribute [local go_sem] Oper.semAt_some
theorem cut3 (A : Option Addr) (n c lo hi : Nat) (h1 : lo < hi) (h2 : hi ≤ n) (hc : n ≤ c) (W : World) :
    (Instr.slice 51 (.slice A n c) (some (.int .i64 (lo : Int))) (some (.int .i64 (hi : Int))) (some (.int .i64 (hi : Int)))).run Tryz.prog W = .ok (.slice (A.map (·.add lo)) (hi - lo) (hi - lo)) W := by
  obtain ⟨i, hi', _, hs, _⟩ := info_parts info_u8
  have hel : Tryz.prog.elem 51 = 5 := by simp [Program.elem, Tryz.underlying51]
  have hu : Tryz.prog.underlying 51 = some (.slice (Tryz.prog.elem 51)) := by rw [hel]; exact Tryz.underlying51
  rw [run_slice_lhm W 51 A n c hu .i64 .i64 .i64 (lo : Int) (hi : Int) (hi : Int) (by omega) (by omega) (by omega) (by omega), hel]
  have hne : hi ≠ lo := by omega
  simp [sizeOf, typeInfo, hi', hs, sliced, Result.andThen, hne]
def chunkEnc (A : Option Addr) (s : Nat) (j : Nat) : Array Value := #[.slice (A.map (·.add (j * s))) s s]
theorem chunk_any (A : Option Addr) (n c s : Nat) (hs : 1 ≤ s) (w : World) : Calls Tryz.prog 72 #[.slice A n c, .int .i64 (s : Int)] w fun e w' =>
    e = .returned (.func (.func 101) #[] #[.pointer (some ⟨w.heap.size, 0, none⟩), .pointer (some ⟨w.heap.size + 1, 0, none⟩)]) ∧ w' = (w.alloc (.cells #[.slice A n c] 51)).alloc (.cells #[.int .i64 (s : Int)] 3) := by
  have h1 : ¬ (s : Int) < 1 := by omega
  go_enter Tryz.func72, Tryz.ntmps72
  go_wp2
  go_ret
  exact ⟨rfl, rfl⟩
structure KeepC (bs bn : Nat) (W W' : World) : Prop where
  s : W'.heap[bs]? = W.heap[bs]?
  n : W'.heap[bn]? = W.heap[bn]?
theorem KeepC.cells {bs bn : Nat} {W W' : World} (h : KeepC bs bn W W') : W'.cell? ⟨bs, 0, none⟩ = W.cell? ⟨bs, 0, none⟩ ∧ W'.cell? ⟨bn, 0, none⟩ = W.cell? ⟨bn, 0, none⟩ := by
  constructor
  · unfold World.cell?; rw [h.s]
  · unfold World.cell?; rw [h.n]
def uptoN (m k : Nat) : List (Fin m) := (List.finRange m).take k
theorem uptoN_succ (m k : Nat) (h : k < m) : uptoN m (k + 1) = uptoN m k ++ [⟨k, h⟩] := by
  unfold uptoN
  rw [List.take_succ_eq_append_getElem (by simpa using h)]
  simp
theorem uptoN_length (m k : Nat) (h : k ≤ m) : (uptoN m k).length = k := by simp [uptoN]; omega
theorem uptoN_prefix (m k : Nat) (h : k ≤ m) : uptoN m k <+: uptoN m m := List.take_prefix_take_left h
theorem chunk1_in (n l bs bn : Nat) (hn : 1 ≤ n) (A : Option Addr) (c s m N : Nat) (hN : N = m * s) (hs : 1 ≤ s) (hs2 : s ≤ 8192) (hc : N ≤ c) (hm : N ≤ 1152921504606846976) (J Jx : List (Fin m) → World → Prop) (hd : ∀ pre W d, J pre W → J pre (W.drewN d))
    (hY : ∀ pre x W, J pre W → pre.length < m → YieldAt Fence.wide (n - 1) Tryz.prog l (chunkEnc A s x.val) W fun e W' =>
      (e = .returned (.bool true) ∧ J (pre ++ [x]) W' ∧ KeepC bs bn W W') ∨ (e = .returned (.bool false) ∧ Jx (pre ++ [x]) W'))
    (W : World) (hBs : W.cell? ⟨bs, 0, none⟩ = some (.slice A N c)) (hBn : W.cell? ⟨bn, 0, none⟩ = some (.int .i64 (s : Int))) (h0 : J [] W) :
    CallsIn Fence.wide n Tryz.prog 101 #[.func (.yield l) #[] #[], .pointer (some ⟨bs, 0, none⟩), .pointer (some ⟨bn, 0, none⟩)] W fun e W' => (∃ v, e = .returned v) ∧
      ((∃ ys, ys = uptoN m m ∧ J ys W') ∨ (∃ pre, pre <+: uptoN m m ∧ Jx pre W')) := by
  refine callsIn_of_wp Tryz.func101 rfl trivial ?_ rfl
  simp only [Tryz.ntmps101, List.size_toArray, List.length_cons, List.length_nil, Nat.reduceAdd, Nat.reduceSub, Array.replicate_succ, Array.replicate_zero, List.push_toArray, List.append_toArray, List.nil_append, List.cons_append]
  have HN := Lib.hid hN
  clear hN
  gi_wp2
  gi_loopw [4] (fun i wr => ∃ j k : Nat, j ≤ m ∧ i = .int .i64 (k : Int) ∧ Hid (k = j * s) ∧ Hid (J (uptoN m j) wr) ∧ wr.cell? ⟨bs, 0, none⟩ = some (.slice A N c) ∧ wr.cell? ⟨bn, 0, none⟩ = some (.int .i64 (s : Int))) (fun i _ => N - (intOf i).toNat)
  case atStart => exact ⟨0, 0, by omega, rfl, Lib.hid (by omega), Lib.hid (by simpa [uptoN] using h0), hBs, hBn⟩
  case round =>
    obtain ⟨j, k, hj, rfl, hk, hJs, hBs, hBn⟩ := hrel
    by_cases hlt : j < m
    · have hk1 : k + s ≤ N := by
        rw [hk.out, HN.out]
        have : (j + 1) * s ≤ m * s := Nat.mul_le_mul_right s hlt
        rw [Nat.add_mul, Nat.one_mul] at this
        exact this
      obtain ⟨e, he⟩ : ∃ e, e = k + s := ⟨_, rfl⟩
      have hk2 : k < N := by omega
      obtain ⟨A1, hcut, _, _⟩ := cutB A N c k (by omega)
      have hcut3 := cut3 A N c k e (by omega) (by omega) hc
      rw [show e - k = s from by omega] at hcut3
      have hmin : ¬ ((N - k : Nat) : Int) < (s : Int) := by omega
      have hwr : IntKind.i64.wrap ((k : Int) + (s : Int)) = (e : Int) := by rw [IntKind.wrap_i64]; omega
      have HY := Lib.hid (fun q => hY _ ⟨j, hlt⟩ (wr.drewN q) (hd _ _ _ hJs.out) (by rw [uptoN_length m j hj]; exact hlt))
      rw [show chunkEnc A s (⟨j, hlt⟩ : Fin m).val = #[.slice (A.map (·.add k)) s s] from by rw [chunkEnc, hk.out]] at HY
      have HE := Lib.hid he
      clear hk1 he
      gi_wp2
      refine wpIn_wide.2 ?_
      go_quiet (fail)
      rename_i nq
      obtain ⟨fn, tmps, assign, body, hy, hR⟩ := HY.out nq
      clear HY
      gi_wp2
      refine hR.mono ?_
      rintro e3 W3 (⟨rfl, hJ3, hK3⟩ | ⟨rfl, hJx3⟩)
      · have hk3 := hK3.cells
        have c1 : W3.cell? ⟨bs, 0, none⟩ = some (.slice A N c) := hk3.1.trans hBs
        have c2 : W3.cell? ⟨bn, 0, none⟩ = some (.int .i64 (s : Int)) := hk3.2.trans hBn
        clear hk3 hy hR
        gi_wp2
        go_roundw
        case rel => exact ⟨j + 1, e, by omega, by simp, Lib.hid (by rw [HE.out, hk.out, Nat.add_mul, Nat.one_mul]), Lib.hid (by rw [uptoN_succ m j hlt]; exact hJ3), c1, c2⟩
        case measure => have := HE.out; simp [intOf]; omega
      · clear hy hR
        gi_wp2
        refine bodyPost_ret (results_none rfl _ _ _) rfl ?_
        exact ⟨⟨_, rfl⟩, .inr ⟨_, by rw [← uptoN_succ m j hlt]; exact uptoN_prefix m (j + 1) hlt, hJx3⟩⟩
    · obtain rfl : j = m := by omega
      have hk1 : ¬ ((k : Int) < (N : Int)) := by rw [hk.out, HN.out]; omega
      gi_wp2
      go_end0
      exact ⟨⟨_, rfl⟩, .inl hJs.out⟩
theorem chunk_stops (n bs bn : Nat) (hn : 1 ≤ n) (A : Option Addr) (c s m N : Nat) (hN : N = m * s) (hs : 1 ≤ s) (hs2 : s ≤ 8192) (hc : N ≤ c) (hm : N ≤ 1152921504606846976) (w : World) (hBs : w.cell? ⟨bs, 0, none⟩ = some (.slice A N c)) (hBn : w.cell? ⟨bn, 0, none⟩ = some (.int .i64 (s : Int))) :
    SeqStopsK Fence.wide n Tryz.prog 101 #[.pointer (some ⟨bs, 0, none⟩), .pointer (some ⟨bn, 0, none⟩)] (fun x : Fin m => chunkEnc A s x.val) (KeepC bs bn) (fun xs => xs = uptoN m m) (fun pre => pre <+: uptoN m m) m w := fun l J Jx W hW hJ _ hY h0 => by
  refine chunk1_in n l bs bn hn A c s m N hN hs hs2 hc hm J Jx (fun pre W' d h => ?_) hY W (cell_keep hW hBs) (cell_keep hW hBn) h0
  exact hJ pre W' _ none h ⟨rfl, rfl, rfl, Nat.le_refl _, fun _ _ _ => rfl⟩ (fun r e => by cases e)
end Go.Proofs.YtaldjmhikebecaaGreat
