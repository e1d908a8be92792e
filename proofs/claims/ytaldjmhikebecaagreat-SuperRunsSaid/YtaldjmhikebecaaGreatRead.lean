/- Layer 8 (sector): Read. -/
import Derived.Test.YtaldjmhikebecaaGreatAt
import Derived.Test.YtaldjmhikebecaaGreatStore
namespace Go.Proofs.YtaldjmhikebecaaGreat
open Go Go.RowKit
set_option maxRecDepth 100000
set_option linter.unusedVariables false
attribute [local go_sem] Oper.semAt_some
theorem wpList_lookup_raw {P : Program} (w : World) {ops : Array Oper} {rest : List Oper} {o : Oper} {a : Act} {Q : Exit → Act → World → Prop} (hg : o.guard = none) (m x : Operand) (t : TypeId) (hop : o.op = Op.lookup t m x true)
    (kt e : TypeId) (K : Maps.Keyed P kt) (ht : P.underlying t = some (.map kt e)) {z : Value} (hz : (zeroValue e).run P w = .ok z w) (b n : Nat) (D : DataW Value)
    (hm : a.eval m = .map (some b)) (hown : w.ownsMap P kt rawR b n D) (ky : Value) (kl : Lit) (hx : a.eval x = ky) (hkey : keyOf P kt ky = some kl) (v0 : Value) (b0 : Bool) (hv0 : D.atKey kl (.held z) = .held v0) (hb0 : Maps.has D kl = b0)
    (hK : wpList P ops Q rest (a.put o.dst (.tuple #[v0, .bool b0])) w) : wpList P ops Q (o :: rest) a w :=
  wpList_lookup_own_ok w hg m x t hop kt e K ht rawR hz (.held z) [] rfl b n D hm hown ky kl hx hkey (fun v ps hv => by
    simp only [rawR, Option.some.injEq, Prod.mk.injEq, hv0, DataW.held.injEq] at hv
    rw [hv.1, hb0]
    exact hK)
theorem wpList_lookup_unit {P : Program} (w : World) {ops : Array Oper} {rest : List Oper} {o : Oper} {a : Act} {Q : Exit → Act → World → Prop} (hg : o.guard = none) (m x : Operand) (t : TypeId) (hop : o.op = Op.lookup t m x true)
    (kt e : TypeId) (K : Maps.Keyed P kt) (ht : P.underlying t = some (.map kt e)) (hz : (zeroValue e).run P w = .ok (.agg #[]) w) (b n : Nat) (D : DataW Value)
    (hm : a.eval m = .map (some b)) (hown : w.ownsMap P kt unitElem b n D) (ky : Value) (kl : Lit) (hx : a.eval x = ky) (hkey : keyOf P kt ky = some kl) (b0 : Bool) (hb0 : Maps.has D kl = b0)
    (hK : wpList P ops Q rest (a.put o.dst (.tuple #[.agg #[], .bool b0])) w) : wpList P ops Q (o :: rest) a w :=
  wpList_lookup_own_unit w hg m x t hop kt e K ht hz b n D hm hown ky kl hx hkey (by rw [hb0]; exact hK)
theorem zero_bytes (w : World) : (zeroValue 51).run Tryz.prog w = .ok (.slice none 0 0) w := by kernel_rfl
theorem zero_unit (w : World) : (zeroValue 91).run Tryz.prog w = .ok (.agg #[]) w := by kernel_rfl
theorem key_of (i : Nat) (h : i ≤ 9223372036854775807) : keyOf Tryz.prog 3 (.int .i64 (i : Int)) = some (key i) :=
  Maps.keyOf_int_mk Tryz.underlying3 (by simp [Lit.wf, IntKind.min, IntKind.max, IntKind.signed, IntKind.bits]; omega)
def RetRead (w : World) (k : Dsk) (i m : Nat) (e : Ending) (w' : World) : Prop :=
  match k.read i m with
  | some l => RetBE w (m * k.size) l 0 e w'
  | none => e = .returned (.tuple #[.slice none 0 0, .int .i64 81]) ∧ Below w.heap.size w w'
section
variable {w : World} {d fb lb bb c : Nat} {k : Dsk} {X : Nat → Prop}
theorem read_none {k : Dsk} {i j m : Nat} (h : k.read i j = none) (hj : j ≤ m) : k.read i m = none := by
  induction m with
  | zero => obtain rfl : j = 0 := by omega
            exact h
  | succ m ih =>
    rcases Nat.lt_or_ge j (m + 1) with h1 | h1
    · simp only [Dsk.read]
      rw [ih (by omega)]
    · obtain rfl : j = m + 1 := by omega
      exact h
theorem OnDisk.at_bs (h : OnDisk X w d fb lb bb c k) (i : Nat) (hi : i < k.n) : Bs w (some ⟨fb, i * k.size, none⟩) k.size k.size (k.at_ i) := by
  have h1 : (i + 1) * k.size ≤ k.n * k.size := Nat.mul_le_mul_right _ hi
  rw [Nat.add_mul, Nat.one_mul] at h1
  have hl := h.len
  have hs2 := h.s2
  refine ⟨by simp [bytes_length, Dsk.at_, hl]; omega, Nat.le_refl _, by unfold maxLen; omega, fun _ => ⟨_, rfl, fun j u hu => ?_⟩⟩
  have e : (⟨fb, i * k.size, none⟩ : Addr).add j = ⟨fb, i * k.size + j, none⟩ := by unfold Addr.add; split <;> simp_all
  rw [e, blk_cell h.fst, bytes_append]
  rw [Dsk.at_, bytes_take, bytes_drop, List.getElem?_take] at hu
  split at hu
  · rename_i hj
    rw [List.getElem?_drop] at hu
    rw [List.getElem?_toArray, List.getElem?_append_left (by rw [bytes_length, hl]; omega)]
    exact hu
  · cases hu
set_option maxHeartbeats 2000000 in
theorem Read_ok (h : OnDisk X w d fb lb bb c k) (i m : Nat) (hi : i + m ≤ k.n) : Calls Tryz.prog 45 #[.pointer (some ⟨d, 0, none⟩), .int .i64 (i : Int), .int .i64 (m : Int)] w (RetRead w k i m) := by
  have HD := Lib.hid h
  obtain ⟨D, hm1, hl1⟩ := h.loo
  obtain ⟨E, cb, hm2, _, hl2⟩ := h.bd
  have HM1 := Lib.hid hm1
  have HL1 := Lib.hid hl1
  have HM2 := Lib.hid hm2
  have HL2 := Lib.hid hl2
  have hin := in_any d (k.n : Int) (i : Int) (m : Int) w (h.cell 0) (by omega) (by have := h.n2; omega) (by omega) (by have := h.n2; omega)
  rw [show decide ((0 : Int) ≤ i ∧ (0 : Int) ≤ m ∧ (i : Int) ≤ k.n ∧ (m : Int) ≤ k.n - i) = true from by simp; omega] at hin
  have HIN := Lib.hid hin
  have HMADE := Lib.hid (disk_made h)
  have hn2 := h.n2
  have hs1 := h.s1
  have hs2 := h.s2
  have c3 : w.cell? ⟨d, 3, none⟩ = some (.map (some lb)) := h.cell 3
  have c4 : w.cell? ⟨d, 4, none⟩ = some (.map (some bb)) := h.cell 4
  have hdl := h.lts.1
  clear h hm1 hl1 hm2 hl2 hin
  go_enter Tryz.func45, Tryz.ntmps45
  go_wp2_with (first
    | (go_at_call 40; go_must (refine HMADE.out.mono ?_; rintro e wx ⟨rfl, hwx⟩; obtain rfl := hwx.symm))
    | (go_at_call 71; go_must (refine HIN.out.mono ?_; rintro e wx ⟨rfl, hwx⟩; obtain rfl := hwx.symm)))
  go_loopw [8, 23] (fun u i' wr => ∃ (j p : Nat) (A' : Option Addr) (c' : Nat), j ≤ m ∧ i' = .int .i64 (j : Int) ∧ u = .slice A' p c' ∧ Hid (p = j * k.size) ∧ Hid (∃ l, k.read i j = some l ∧ wr.ownsRow w.heap.size 5 1 (.slice A' p c') p (bytes l)) ∧ Hid (Below w.heap.size w wr)) (fun _ i' _ => m - (intOf i').toNat)
  case atStart => exact ⟨0, 0, none, 0, Nat.zero_le _, rfl, rfl, Lib.hid (by omega), Lib.hid ⟨[], rfl, World.ownsRow_nil _ _ _ _⟩, Lib.hid (Below.refl _ _)⟩
  case round =>
    obtain ⟨j, p, A', c', hj, rfl, rfl, hp, hown, hbel⟩ := hrel
    obtain ⟨l, hrd, how⟩ := hown.out
    clear hown
    have HRD := Lib.hid hrd
    have HOW := Lib.hid how
    clear hrd how
    by_cases hlt : j < m
    · obtain ⟨q, hq⟩ : ∃ q, q = i + j := ⟨_, rfl⟩
      have hw : IntKind.i64.wrap ((i : Int) + (j : Int)) = (q : Int) := by rw [IntKind.wrap_i64]; omega
      have hkey := key_of q (by omega)
      have hpb : p + k.size ≤ 1073741824 := by
        have h1 : j * k.size ≤ 65536 * 8192 := Nat.mul_le_mul (by omega) hs2
        rw [hp.out]
        omega
      have HPB := Lib.hid hpb
      have r3 : wr.cell? ⟨d, 3, none⟩ = some (.map (some lb)) := cell_keep hbel.out c3
      have r4 : wr.cell? ⟨d, 4, none⟩ = some (.map (some bb)) := cell_keep hbel.out c4
      have HOM1 := Lib.hid (own_map_block HM1.out (hbel.out.block lb HM1.out.lt))
      have HOM2 := Lib.hid (own_map_block HM2.out (hbel.out.block bb HM2.out.lt))
      have hb0 := HL2.out q (by omega)
      have hl0 := HL1.out.at_ q (by omega)
      have HQ := Lib.hid hq
      have HQN := Lib.hid (show q < k.n by omega)
      clear hq hpb
      have tok1 : True := trivial
      cases hlo : k.loose q with
      | some l2 =>
        rw [hlo] at hl0
        obtain ⟨hh, A2, c2, hat, hbs, hne⟩ := hl0
        have HSEC := Lib.hid (show k.sec q = some l2 by rw [Dsk.sec, hlo])
        have HAT := Lib.hid (hat (.held (.slice none 0 0)))
        have HH := Lib.hid hh
        have HB0 := Lib.hid hb0
        have HBS := Lib.hid (hbs.below hbel.out)
        clear hlo hat hh hb0 hbs hne
        rcases Bool.eq_false_or_eq_true (k.bad q) with hbq | hbq
        all_goals
          rw [hbq] at HB0
          clear hbq
          go_wp2_with (first
            | (at_lookup; have _t := tok1; clear tok1; go_must (clear _t; refine wpList_lookup_raw _ rfl _ _ 77 rfl 3 51 int_law Tryz.underlying77 (zero_bytes _) lb c D rfl HOM1.out _ (key q) rfl hkey _ _ HAT.out HH.out ?_))
            | (at_lookup; go_must (refine wpList_lookup_unit _ rfl _ _ 78 rfl 3 91 int_law Tryz.underlying78 (zero_unit _) bb cb E rfl HOM2.out _ (key q) rfl hkey _ HB0.out ?_))
            | (at_builtin; go_must (refine wpList_append_rd rfl _ _ _ 5 rfl (.int .u8 0) 1 1 Tryz.underlying51 info_u8 rfl (by decide) (HOW.out.alloc _) rfl (HBS.out.alloc _) rfl (bytes_oneCell _) ?_ ?c1 ?c2 ?c3; intro A1 c1 w1 ho1 hg1)))
          case c1 => have := HPB.out; omega
          case c2 => have := HPB.out; unfold maxLen; omega
          case c3 => have := hbel.out.size; simp; omega
          go_roundw
          case rel =>
            rw [← bytes_append] at ho1
            exact ⟨j + 1, p + k.size, A1, c1, by omega, by go_num, rfl, Lib.hid (by rw [hp.out, Nat.add_mul, Nat.one_mul]), Lib.hid ⟨_, by simp only [Dsk.read]; rw [HRD.out, ← HQ.out, HSEC.out], ho1⟩, Lib.hid (below_grown (hbel.out.alloc hbel.out.size _) hg1.g (HOW.out.alloc _) (Nat.le_refl _))⟩
          case measure => simp [intOf]; omega
      | none =>
        rw [hlo] at hl0
        have HAT : Hid (D.atKey (key q) (.held (.slice none 0 0)) = .held (.slice none 0 0)) := Lib.hid (Maps.atKey_of_not_has hl0 _)
        have HH := Lib.hid hl0
        have HB0 := Lib.hid hb0
        clear hl0 hb0
        rcases Bool.eq_false_or_eq_true (k.bad q) with hbq | hbq
        · have HSEC := Lib.hid (show k.sec q = none by rw [Dsk.sec, hlo, hbq]; rfl)
          have HNO := Lib.hid (show k.read i m = none from read_none (j := j + 1) (by simp only [Dsk.read]; rw [HRD.out, ← HQ.out, HSEC.out]) hlt)
          rw [hbq] at HB0
          clear hbq hlo
          go_wp2_with (first
            | (at_lookup; have _t := tok1; clear tok1; go_must (clear _t; refine wpList_lookup_raw _ rfl _ _ 77 rfl 3 51 int_law Tryz.underlying77 (zero_bytes _) lb c D rfl HOM1.out _ (key q) rfl hkey _ _ HAT.out HH.out ?_))
            | (at_lookup; go_must (refine wpList_lookup_unit _ rfl _ _ 78 rfl 3 91 int_law Tryz.underlying78 (zero_unit _) bb cb E rfl HOM2.out _ (key q) rfl hkey _ HB0.out ?_)))
          go_ret2
          unfold RetRead
          rw [HNO.out]
          exact ⟨rfl, hbel.out.alloc hbel.out.size _⟩
        · have HSEC := Lib.hid (show k.sec q = some (k.at_ q) by rw [Dsk.sec, hlo, hbq]; rfl)
          rw [hbq] at HB0
          clear hbq hlo
          have HDR := Lib.hid ((HD.out.below hbel.out).alloc (.cells #[] 91))
          go_wp2_with (first
            | (at_lookup; have _t := tok1; clear tok1; go_must (clear _t; refine wpList_lookup_raw _ rfl _ _ 77 rfl 3 51 int_law Tryz.underlying77 (zero_bytes _) lb c D rfl HOM1.out _ (key q) rfl hkey _ _ HAT.out HH.out ?_))
            | (at_lookup; go_must (refine wpList_lookup_unit _ rfl _ _ 78 rfl 3 91 int_law Tryz.underlying78 (zero_unit _) bb cb E rfl HOM2.out _ (key q) rfl hkey _ HB0.out ?_))
            | (go_at_call 48; go_must (refine (at_ok HDR.out q HQN.out).mono ?_; rintro e wx ⟨rfl, hbx⟩; have HBX := Lib.hid hbx; have HBS := Lib.hid ((HDR.out.below hbx).at_bs q HQN.out); clear hbx))
            | (at_builtin; go_must (refine wpList_append_rd rfl _ _ _ 5 rfl (.int .u8 0) 1 1 Tryz.underlying51 info_u8 rfl (by decide) (own_below (HOW.out.alloc _) HBX.out) rfl (HBS.out) rfl (bytes_oneCell _) ?_ ?c1 ?c2 ?c3; intro A1 c1 w1 ho1 hg1)))
          case c1 => have := HPB.out; omega
          case c2 => have := HPB.out; unfold maxLen; omega
          case c3 => have := hbel.out.size; have := HBX.out.size; simp at this; omega
          go_roundw
          case rel =>
            rw [← bytes_append] at ho1
            exact ⟨j + 1, p + k.size, A1, c1, by omega, by go_num, rfl, Lib.hid (by rw [hp.out, Nat.add_mul, Nat.one_mul]), Lib.hid ⟨_, by simp only [Dsk.read]; rw [HRD.out, ← HQ.out, HSEC.out], ho1⟩, Lib.hid (below_grown (bthen (hbel.out.alloc hbel.out.size _) HBX.out) hg1.g (own_below (HOW.out.alloc _) HBX.out) (Nat.le_refl _))⟩
          case measure => simp [intOf]; omega
    · obtain rfl : j = m := by omega
      go_wp2_with fail
      go_ret2
      unfold RetRead
      rw [HRD.out]
      obtain rfl := hp.out
      exact ⟨A', c', rfl, HOW.out, hbel.out⟩
end
end Go.Proofs.YtaldjmhikebecaaGreat
