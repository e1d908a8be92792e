/- frame.Pad. -/
import Derived.Test.YtaldjmhikebecaaGreatSupE
import Derived.Test.YtaldjmhikebecaaGreatOct
import Derived.Lib.AppendZerosOnto
import Derived.Lib.FrozenHead
namespace Go.Proofs.YtaldjmhikebecaaGreat
open Go Go.RowKit
set_option maxRecDepth 100000
set_option linter.unusedVariables false
theorem zeroCells_one (z : Value) (m : Nat) : (Builtin.zeroCells #[z] m).toList = List.replicate m z := by
  refine List.ext_getElem (by simp [Builtin.zeroCells]) fun k h1 h2 => ?_
  simp [Builtin.zeroCells, Nat.mod_one]
theorem run_append_own_zeros {P : Program} (w : World) (base : Nat) (t tn ty e : TypeId) (i : TypeInfo) (z : Value) (kq kn : IntKind) (ht : P.underlying t = some (.slice e)) (htn : P.underlying tn = some (.int kn)) (hi : P.info? e = some i) (hz : i.zero = some z)
    (hs1 : i.size = 1) (hzc : z.cells = #[z]) (v : Value) (n : Nat) (xs : List Value) (hown : w.ownsRow base e 1 v n xs) (hz1 : z.oneCell' = true)
    (m : Nat) (hm : 0 < m) (h63 : n + m ≤ maxLen) (hbytes : (n + m) * i.bytes ≤ 140737488355328) (hbase : base ≤ w.heap.size) :
    ∃ v' w', (Builtin.append_ #[t, tn] ty #[v, .int kq m]).run P w = .ok v' w' ∧ w'.ownsRow base e 1 v' (n + m) (xs ++ (Builtin.zeroCells z.cells m).toList) ∧ w.grownBy w' v.ownBlock := by
  have hzs : z.cells.size = 1 := by rw [hzc]; rfl
  have hl : (Builtin.zeroCells z.cells m).toList.length = m * 1 := by rw [Array.length_toList, size_zeroCells, hzs]
  have hlen : (xs ++ (Builtin.zeroCells z.cells m).toList).length = (n + m) * 1 := by rw [List.length_append, hown.1, hl, Nat.add_mul]
  have grown : ∀ (old : Nat), old < n + m → ∀ (row : Option Nat),
      (w.drew.alloc (.cells (xs.toArray ++ Builtin.zeroCells z.cells m ++ Builtin.zeroCells z.cells (grownCap w (n + m) old e - (n + m))) e)).ownsRow base e 1
        (.slice (some ⟨w.heap.size, 0, none⟩) (n + m) (grownCap w (n + m) old e)) (n + m) (xs ++ (Builtin.zeroCells z.cells m).toList) ∧
      w.grownBy (w.drew.alloc (.cells (xs.toArray ++ Builtin.zeroCells z.cells m ++ Builtin.zeroCells z.cells (grownCap w (n + m) old e - (n + m))) e)) row := by
    intro old ho row
    have hge := grownCap_ge w (n + m) old e
    have hcm : grownCap w (n + m) old e ≤ maxLen := grownCap_le_maxLen w (n + m) old e h63
    refine ⟨⟨hlen, .inr ⟨w.heap.size, _, _, rfl, hbase, heap_alloc_new w.drew _, hge, hcm, ?_, ?_⟩⟩, ⟨rfl, rfl, rfl, by simp, fun k hk _ => heap_alloc_old w.drew _ hk⟩⟩
    · simp only [Array.size_append, List.size_toArray, size_zeroCells, hzs, hown.1, ← Nat.add_mul]
      congr 1
      omega
    · simp only [Array.toList_append, List.append_assoc]
      rw [← List.append_assoc, ← hlen]
      exact List.take_left
  have hmx : maxLen ≤ 9223372036854775807 := by unfold maxLen; omega
  have hmb : m * i.bytes ≤ 281474976710656 := Nat.le_trans (Nat.mul_le_mul_right _ (Nat.le_add_left m n)) (by omega)
  rcases hown.2 with ⟨rfl, rfl⟩ | ⟨g, cap, cur, rfl, hbg, hg, hnc, hcm, hcs, htake⟩
  · have hx : xs = [] := List.eq_nil_of_length_eq_zero (by simpa using hown.1)
    subst hx
    have hr := Lib.run_append_nil_zeros (P := P) w t tn ty e i z kq kn ht htn hi hz m hm (by omega) (by omega) hmb
    have hgr := grown 0 (by omega) (Value.ownBlock (.slice none 0 0))
    simp only [Nat.zero_add, List.nil_append, Array.empty_append] at hgr ⊢
    exact ⟨_, _, hr, hgr.1, hgr.2⟩
  · by_cases hroom : n + m ≤ cap
    · have hst := run_storeCells_atF P g n e (0, 0) (Builtin.zeroCells z.cells m).toList 0 cur w hg (by simp) (by rw [hl, hcs]; omega) (fun u hu => by rw [hzc, zeroCells_one] at hu; rw [List.eq_of_mem_replicate hu]; exact hz1)
      simp only [Nat.add_zero] at hst
      have hw : IntKind.i64.wrap (m : Int) = m := by rw [IntKind.wrap_i64]; omega
      have h48i : ¬ (281474976710656 < (m : Int) * (i.bytes : Int)) := by rw [← Int.natCast_mul]; omega
      have hneg : ¬ ((m : Int) < 0) := by omega
      have hne : m ≠ 0 := by omega
      have hr : (Builtin.append_ #[t, tn] ty #[.slice (some ⟨g, 0, none⟩) n cap, .int kq m]).run P w = .ok (.slice (some ⟨g, 0, none⟩) (n + m) cap) (w.setRow g (cur.toList.take n ++ (Builtin.zeroCells z.cells m).toList ++ cur.toList.drop (n + (Builtin.zeroCells z.cells m).toList.length)).toArray) := by
        simp [Builtin.append_, run_underlying ht, run_underlying htn, sizeOf, typeInfo, zeroValue, hi, hz, asInt, asIntOf, hw, hneg, h48i, hs1, hne, hroom, Addr.add_lit, hst]
      refine ⟨_, _, hr, ⟨hlen, .inr ⟨g, cap, _, rfl, hbg, setRow_heap w g cur _ e _ hg, hroom, hcm, ?_, ?_⟩⟩, ⟨rfl, rfl, rfl, by simp [World.setRow], fun k _ hk => setRow_other w g k _ (fun e => hk (by simp [Value.ownBlock, e]))⟩⟩
      · simp only [List.size_toArray, List.length_append, List.length_take, List.length_drop, Array.length_toList, size_zeroCells, hzs]
        omega
      · have htake' : cur.toList.take n = xs := by simpa using htake
        rw [htake', ← hlen]
        exact List.take_left
    · have hold : (Builtin.firstCells i.size n (.slice (some ⟨g, 0, none⟩) n cap)).run P w.drew = .ok xs.toArray w.drew := run_firstCells_some (P := P) (w := w.drew) i.size n ⟨g, 0, none⟩ n cap xs (by rw [hs1]; exact hown.1) (hown.cells (g := g) rfl)
      have hr := Lib.run_append_grow_zeros (P := P) w t tn ty e i z kq kn ht htn hi hz (some ⟨g, 0, none⟩) n cap xs hold m hm (by omega) (by omega) (by omega) hmb (growslice_fits (by omega) hbytes)
      have hgr := grown cap (by omega) (Value.ownBlock (.slice (some ⟨g, 0, none⟩) n cap))
      exact ⟨_, _, hr, hgr.1, hgr.2⟩
theorem run_append_zeros {P : Program} (w : World) (base : Nat) (t tn ty e : TypeId) (i : TypeInfo) (z : Value) (kq kn : IntKind) (ht : P.underlying t = some (.slice e)) (htn : P.underlying tn = some (.int kn)) (hi : P.info? e = some i) (hz : i.zero = some z)
    (hs1 : i.size = 1) (hzc : z.cells = #[z]) (v : Value) (n : Nat) (xs : List Value) (hown : w.ownsRow base e 1 v n xs) (hz1 : z.oneCell' = true)
    (m : Nat) (h63 : n + m ≤ maxLen) (hbytes : (n + m) * i.bytes ≤ 140737488355328) (hbase : base ≤ w.heap.size) :
    ∃ A' c' w', (Builtin.append_ #[t, tn] ty #[v, .int kq m]).run P w = .ok (.slice A' (n + m) c') w' ∧ w'.ownsRow base e 1 (.slice A' (n + m) c') (n + m) (xs ++ List.replicate m z) ∧ w.grownBy w' v.ownBlock := by
  rcases Nat.eq_zero_or_pos m with rfl | hm
  · obtain ⟨A0, c0, rfl⟩ := own_form hown
    have hn : n ≤ c0 := (Rd.of_own hown).2.1
    refine ⟨A0, c0, w, ?_, by simpa using hown, World.grownBy.refl _ _⟩
    have hw : IntKind.i64.wrap (0 : Int) = 0 := rfl
    cases A0 <;> simp [Builtin.append_, run_underlying ht, run_underlying htn, sizeOf, typeInfo, zeroValue, hi, hz, asInt, asIntOf, hw, hn, storeCells]
  · obtain ⟨v', w', hr, ho, hg⟩ := run_append_own_zeros w base t tn ty e i z kq kn ht htn hi hz hs1 hzc v n xs hown hz1 m hm h63 hbytes hbase
    obtain ⟨A', c', rfl⟩ := own_form ho
    rw [hzc, zeroCells_one] at ho
    exact ⟨A', c', w', hr, ho, hg⟩
theorem wpList_append_zeros {P : Program} {w : World} {ops : Array Oper} {rest : List Oper} {o : Oper} {a : Act} {Q : Exit → Act → World → Prop} (hgd : o.guard = none) (s x : Operand) (t tn e : TypeId)
    (ho : o.op = .call { callee := .builtin .append, args := #[s, x], argTypes := #[t, tn] }) (i : TypeInfo) (z : Value) (kq kn : IntKind) (ht : P.underlying t = some (.slice e)) (htn : P.underlying tn = some (.int kn)) (hi : P.info? e = some i) (hz : i.zero = some z)
    (hs1 : i.size = 1) (hzc : z.cells = #[z]) {base n : Nat} {v : Value} {xs : List Value} (hown : w.ownsRow base e 1 v n xs) (hz1 : z.oneCell' = true) (hs : a.eval s = v) (m : Nat) (k : Int) (hk : k = m) (hx : a.eval x = .int kq k)
    (h63 : n + m ≤ maxLen) (hbytes : (n + m) * i.bytes ≤ 140737488355328) (hbase : base ≤ w.heap.size)
    (h : ∀ A' c' w', w'.ownsRow base e 1 (.slice A' (n + m) c') (n + m) (xs ++ List.replicate m z) → w.grownBy w' v.ownBlock → wpList P ops Q rest (a.put o.dst (.slice A' (n + m) c')) w') : wpList P ops Q (o :: rest) a w := by
  subst hk
  obtain ⟨A', c', w', hr, h2, h3⟩ := run_append_zeros (P := P) w base t tn o.type e i z kq kn ht htn hi hz hs1 hzc v n xs hown hz1 m h63 hbytes hbase
  exact Lib.wpList_append_run w hgd s x t tn ho v _ hs hx _ w' hr (h A' c' w' h2 h3)
end Go.Proofs.YtaldjmhikebecaaGreat
namespace Go.Proofs.YtaldjmhikebecaaGreat
open Go Go.RowKit
set_option maxRecDepth 100000
set_option linter.unusedVariables false
attribute [local go_sem] Oper.semAt_some
theorem Pad_ok (A : Option Addr) (n c : Nat) (l : List UInt8) (w : World) (h : Bs w A n c l) (k : Nat) (hk1 : 1 ≤ k) (hk2 : k ≤ 16777216) (hn : n ≤ 70368744177664) :
    Calls Tryz.prog 38 #[.slice A n c, .int .i64 k] w (RetBE w (n + (k - n % k) % k) (l ++ List.replicate ((k - n % k) % k) 0) 0) := by
  have H := Lib.hid h
  have HC := Lib.hid (BClone_any A n c l w h (by omega))
  clear h
  obtain ⟨i, hi, hz, hs, hb⟩ := info_parts info_u8
  have hm : n % k < k := Nat.mod_lt _ (by omega)
  have hm2 : (k - n % k) % k < k := Nat.mod_lt _ (by omega)
  have e1 : wrap64 ((k : Int) - (n : Int) % (k : Int)) = ((k - n % k : Nat) : Int) := by
    rw [show ((k : Int) - (n : Int) % (k : Int)) = ((k - n % k : Nat) : Int) from by rw [Int.ofNat_sub (by omega)]; rfl]
    unfold wrap64; omega
  have e2 : (wrap64 ((k : Int) - (n : Int) % (k : Int))).tmod (k : Int) = (((k - n % k) % k : Nat) : Int) := by rw [e1]; rfl
  have E2 := Lib.hid e2
  clear e1 e2 hm
  have HM := Lib.hid hm2
  have HI := Lib.hid hi
  have HZ := Lib.hid hz
  have HS := Lib.hid hs
  have HBY := Lib.hid hb
  clear hi hz hs hb hm2
  generalize (k - n % k) % k = r at E2 HM ⊢
  go_enter Tryz.func38, Tryz.ntmps38
  go_wp2_with (first
    | (go_at_call 43; go_must (refine HC.out.mono ?_; rintro e wx ⟨Ax, cx, rfl, hox, hbx⟩; have HO := Lib.hid hox; have HB := Lib.hid hbx; clear hox hbx))
    | (at_builtin; go_must (refine wpList_append_zeros rfl _ _ _ _ 5 rfl i (.int .u8 0) .i64 .i64 Tryz.underlying51 Tryz.underlying3 HI.out HZ.out HS.out rfl HO.out rfl rfl r _ E2.out rfl (by have := HM.out; unfold maxLen; omega) (by rw [HBY.out]; have := HM.out; omega) HB.out.size ?_; intro A1 c1 w1 ho1 hg1)))
  have hz0 : bytes l ++ List.replicate r (.int .u8 0) = bytes (l ++ List.replicate r 0) := by simp [bytes, byt]
  rw [hz0] at ho1
  refine bodyPost_ret (results_tmp2 rfl _ _ _) rfl ⟨A1, c1, rfl, ho1, ?_⟩
  exact HB.out.grown hg1 HB.out.size (fun k hk => (own_base HO.out k hk).1)
end Go.Proofs.YtaldjmhikebecaaGreat
