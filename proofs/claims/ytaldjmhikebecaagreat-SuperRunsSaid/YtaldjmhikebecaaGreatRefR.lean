/- The reference of layer 8: Loose, Read, Same. -/
import Derived.Test.YtaldjmhikebecaaGreatRef
namespace Go.Proofs.YtaldjmhikebecaaGreat
open Go Go.RowKit
set_option maxRecDepth 100000
set_option linter.unusedVariables false
attribute [local go_sem] Oper.semAt_some
theorem info_i64 : (Tryz.prog.info? 3).map (fun i => (i.zero, i.size, i.bytes)) = some (some (.int .i64 0), 1, 8) := by kernel_rfl
theorem ints_one (l : List Int) : ∀ u ∈ l.map (Value.int .i64), u.oneCell' = true := by
  intro u hu
  obtain ⟨x, _, rfl⟩ := List.mem_map.1 hu
  rfl
section
variable {w w' : World} {r L cap : Nat} {k : Dsk} {X : Nat → Prop}
set_option maxHeartbeats 2000000 in
theorem RRead_ok (h : OnRef X w r L cap k) (i m : Nat) (hi : i + m ≤ k.n) : Calls Tryz.prog 81 #[.pointer (some ⟨r, 0, none⟩), .int .i64 (i : Int), .int .i64 (m : Int)] w (RetRead w k i m) := by
  have c1 : w.cell? ⟨r, 1, none⟩ = some (.slice (some ⟨L, 0, none⟩) k.n cap) := blk_cell h.blk 1
  have hn2 := h.n2
  have hs1 := h.s1
  have hs2 := h.s2
  have HD := Lib.hid h
  have g1 : ¬ (i : Int) < 0 := by omega
  have g2 : ¬ (m : Int) < 0 := by omega
  have g3 : ¬ (k.n : Int) < (i : Int) := by omega
  have g4 : IntKind.i64.wrap ((k.n : Int) - (i : Int)) = (k.n : Int) - (i : Int) := by rw [IntKind.wrap_i64]; omega
  have g5 : ¬ (k.n : Int) - (i : Int) < (m : Int) := by omega
  obtain ⟨z, hz⟩ : ∃ z, z = i + m := ⟨_, rfl⟩
  have g6 : IntKind.i64.wrap ((i : Int) + (m : Int)) = (z : Int) := by rw [IntKind.wrap_i64]; omega
  have HZ := Lib.hid hz
  clear h hz
  go_enter Tryz.func81, Tryz.ntmps81
  go_wp2_with fail
  go_loopw [8, 9] (fun u i' wr => ∃ (j q p : Nat) (A' : Option Addr) (c' : Nat), j ≤ m ∧ q = i + j ∧ i' = .int .i64 (q : Int) ∧ u = .slice A' p c' ∧ Hid (p = j * k.size) ∧ Hid (∃ l, k.read i j = some l ∧ wr.ownsRow w.heap.size 5 1 (.slice A' p c') p (bytes l)) ∧ Hid (Below w.heap.size w wr)) (fun _ i' _ => z - (intOf i').toNat)
  case atStart => exact ⟨0, i, 0, none, 0, Nat.zero_le _, rfl, rfl, rfl, Lib.hid (by omega), Lib.hid ⟨[], rfl, World.ownsRow_nil _ _ _ _⟩, Lib.hid (Below.refl _ _)⟩
  case round =>
    obtain ⟨j, q, p, A', c', hj, hq, rfl, rfl, hp, hown, hbel⟩ := hrel
    obtain ⟨l, hrd, how⟩ := hown.out
    clear hown
    have HRD := Lib.hid hrd
    have HOW := Lib.hid how
    clear hrd how
    by_cases hlt : j < m
    · have hqz : (q : Int) < (z : Int) := by rw [HZ.out]; omega
      have hqn : (q : Int) < (k.n : Int) := by omega
      have hpb : p + k.size ≤ 1073741824 := by
        have h1 : j * k.size ≤ 65536 * 8192 := Nat.mul_le_mul (by omega) hs2
        rw [hp.out]
        omega
      have HPB := Lib.hid hpb
      have HDR := Lib.hid (HD.out.below hbel.out)
      have r1 : wr.cell? ⟨r, 1, none⟩ = some (.slice (some ⟨L, 0, none⟩) k.n cap) := cell_keep hbel.out c1
      have hat := HDR.out.at_ q (by omega)
      obtain ⟨FA, fc, f0, fb, _⟩ := hat.f
      have f1 := hat.l
      have f3 := hat.b
      have fn := hat.nw
      have HFB := Lib.hid fb
      have HQ := Lib.hid hq
      clear hat fb hpb hq
      cases hlo : k.loose q with
      | some l2 =>
        rw [hlo] at f1 fn
        obtain ⟨NA, nc, f2, nb, _⟩ := fn
        have f1 : wr.cell? ⟨L, q * 4 + 1, none⟩ = some (.bool true) := f1
        have HSEC := Lib.hid (show k.sec q = some l2 by rw [Dsk.sec, hlo])
        have HNB := Lib.hid nb
        clear hlo nb
        go_wp2_with (at_builtin; go_must (refine wpList_append_rd rfl _ _ _ 5 rfl (.int .u8 0) 1 1 Tryz.underlying51 info_u8 rfl (by decide) (HOW.out.alloc _) rfl (HNB.out.alloc _) rfl (bytes_oneCell _) ?_ ?c1 ?c2 ?c3; intro A1 c1 w1 ho1 hg1))
        case c1 => have := HPB.out; omega
        case c2 => have := HPB.out; unfold maxLen; omega
        case c3 => have := hbel.out.size; simp; omega
        go_roundw
        case rel =>
          rw [← bytes_append] at ho1
          exact ⟨j + 1, q + 1, p + k.size, A1, c1, by omega, by have := HQ.out; omega, by go_num, rfl, Lib.hid (by rw [hp.out, Nat.add_mul, Nat.one_mul]), Lib.hid ⟨_, by simp only [Dsk.read]; rw [HRD.out, ← HQ.out, HSEC.out], ho1⟩, Lib.hid (below_grown (hbel.out.alloc hbel.out.size _) hg1.g (HOW.out.alloc _) (Nat.le_refl _))⟩
        case measure => have := HZ.out; have := HQ.out; simp [intOf]; omega
      | none =>
        rw [hlo] at f1 fn
        have f2 : wr.cell? ⟨L, q * 4 + 2, none⟩ = some (.slice none 0 0) := fn
        have f1 : wr.cell? ⟨L, q * 4 + 1, none⟩ = some (.bool false) := f1
        cases hbq : k.bad q with
        | true =>
          rw [hbq] at f3
          have HSEC := Lib.hid (show k.sec q = none by rw [Dsk.sec, hlo, hbq]; rfl)
          have HNO := Lib.hid (show k.read i m = none from read_none (j := j + 1) (by simp only [Dsk.read]; rw [HRD.out, ← HQ.out, HSEC.out]) hlt)
          clear hbq hlo
          go_wp2_with fail
          go_ret2
          unfold RetRead
          rw [HNO.out]
          exact ⟨rfl, hbel.out.alloc hbel.out.size _⟩
        | false =>
          rw [hbq] at f3
          have HSEC := Lib.hid (show k.sec q = some (k.at_ q) by rw [Dsk.sec, hlo, hbq]; rfl)
          clear hbq hlo
          go_wp2_with (at_builtin; go_must (refine wpList_append_rd rfl _ _ _ 5 rfl (.int .u8 0) 1 1 Tryz.underlying51 info_u8 rfl (by decide) (HOW.out.alloc _) rfl (HFB.out.alloc _) rfl (bytes_oneCell _) ?_ ?c1 ?c2 ?c3; intro A1 c1 w1 ho1 hg1))
          case c1 => have := HPB.out; omega
          case c2 => have := HPB.out; unfold maxLen; omega
          case c3 => have := hbel.out.size; simp; omega
          go_roundw
          case rel =>
            rw [← bytes_append] at ho1
            exact ⟨j + 1, q + 1, p + k.size, A1, c1, by omega, by have := HQ.out; omega, by go_num, rfl, Lib.hid (by rw [hp.out, Nat.add_mul, Nat.one_mul]), Lib.hid ⟨_, by simp only [Dsk.read]; rw [HRD.out, ← HQ.out, HSEC.out], ho1⟩, Lib.hid (below_grown (hbel.out.alloc hbel.out.size _) hg1.g (HOW.out.alloc _) (Nat.le_refl _))⟩
          case measure => have := HZ.out; have := HQ.out; simp [intOf]; omega
    · obtain rfl : j = m := by omega
      have hqz : ¬ (q : Int) < (z : Int) := by rw [HZ.out]; omega
      go_wp2_with fail
      go_ret2
      unfold RetRead
      rw [HRD.out]
      obtain rfl := hp.out
      exact ⟨A', c', rfl, HOW.out, hbel.out⟩
def loosePre (k : Dsk) (j : Nat) : List Nat := (List.range j).filter fun i => (k.loose i).isSome
theorem loosePre_succ (k : Dsk) (j : Nat) : loosePre k (j + 1) = if (k.loose j).isSome then loosePre k j ++ [j] else loosePre k j := by
  unfold loosePre
  rw [List.range_succ, List.filter_append]
  split <;> simp_all
theorem loosePre_length (k : Dsk) (j : Nat) : (loosePre k j).length ≤ j := by
  have := List.length_filter_le (fun i => (k.loose i).isSome) (List.range j)
  simpa [loosePre] using this
set_option maxHeartbeats 2000000 in
theorem RLoose_ok (h : OnRef X w r L cap k) : Calls Tryz.prog 54 #[.pointer (some ⟨r, 0, none⟩)] w (RetLoose w k) := by
  have c1 : w.cell? ⟨r, 1, none⟩ = some (.slice (some ⟨L, 0, none⟩) k.n cap) := blk_cell h.blk 1
  have hn2 := h.n2
  have HD := Lib.hid h
  clear h
  go_enter Tryz.func54, Tryz.ntmps54
  go_wp2_with fail
  go_loopw [3, 4] (fun u i' wr => ∃ (j p : Nat) (A' : Option Addr) (c' : Nat), j ≤ k.n ∧ p ≤ j ∧ i' = .int .i64 (j : Int) ∧ u = .slice A' p c' ∧ Hid (p = (loosePre k j).length) ∧ Hid (wr.ownsRow w.heap.size 3 1 (.slice A' p c') p ((ints (loosePre k j)).map (Value.int .i64))) ∧ Hid (Below w.heap.size w wr)) (fun _ i' _ => k.n - (intOf i').toNat)
  case atStart => exact ⟨0, 0, none, 0, Nat.zero_le _, Nat.le_refl _, rfl, rfl, Lib.hid rfl, Lib.hid (World.ownsRow_nil _ _ _ _), Lib.hid (Below.refl _ _)⟩
  case round =>
    obtain ⟨j, p, A', c', hj, hpj, rfl, rfl, hp, how, hbel⟩ := hrel
    have r1 : wr.cell? ⟨r, 1, none⟩ = some (.slice (some ⟨L, 0, none⟩) k.n cap) := cell_keep hbel.out c1
    by_cases hlt : j < k.n
    · have f1 := ((HD.out.below hbel.out).at_ j hlt).l
      have hsucc := loosePre_succ k j
      cases hlo : (k.loose j).isSome with
      | true =>
        rw [hlo] at f1 hsucc
        have HS := Lib.hid hsucc
        clear hlo hsucc
        go_wp2_with (at_builtin; go_must (refine wpList_append_rd rfl _ _ _ 3 rfl (.int .i64 0) 1 8 Tryz.underlying68 info_i64 rfl (by decide) (how.out.alloc _) rfl (cells_new wr [.int .i64 (j : Int)] 3 1 rfl (by unfold maxLen; omega)) rfl (ints_one [(j : Int)]) ?_ ?c1 ?c2 ?c3; intro A1 c1 w1 ho1 hg1))
        case c1 => omega
        case c2 => unfold maxLen; omega
        case c3 => have := hbel.out.size; simp; omega
        go_roundw
        case rel =>
          have e : ints (loosePre k (j + 1)) = ints (loosePre k j) ++ [(j : Int)] := by rw [HS.out]; simp [ints]
          refine ⟨j + 1, p + 1, A1, c1, by omega, by omega, by go_num, rfl, Lib.hid (by rw [HS.out, hp.out]; simp), Lib.hid ?_, Lib.hid (below_grown (hbel.out.alloc hbel.out.size _) hg1.g (how.out.alloc _) (Nat.le_refl _))⟩
          rw [e, List.map_append]
          exact ho1
        case measure => simp [intOf]; omega
      | false =>
        rw [hlo] at f1 hsucc
        have HS := Lib.hid (show loosePre k (j + 1) = loosePre k j from hsucc)
        clear hlo hsucc
        go_wp2_with fail
        go_roundw
        case rel => exact ⟨j + 1, p, A', c', by omega, by omega, by go_num, rfl, Lib.hid (by rw [HS.out]; exact hp.out), Lib.hid (by rw [HS.out]; exact how.out), hbel⟩
        case measure => simp [intOf]; omega
    · obtain rfl : j = k.n := by omega
      go_wp2_with fail
      go_ret
      obtain rfl := hp.out
      exact ⟨A', c', rfl, how.out, hbel.out⟩
end
end Go.Proofs.YtaldjmhikebecaaGreat
