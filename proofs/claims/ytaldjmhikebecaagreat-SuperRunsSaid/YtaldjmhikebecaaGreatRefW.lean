/- The reference of layer 8: Write. -/
import Derived.Test.YtaldjmhikebecaaGreatAlike
import Derived.BigQuiet
import Derived.Deep.RegionLaw
import Derived.IntWalk
namespace Go.Proofs.YtaldjmhikebecaaGreat
open Go Go.RowKit Go.BigFrame
set_option maxRecDepth 100000
set_option linter.unusedVariables false
attribute [local go_sem] Oper.semAt_some
section
variable {w w' : World} {r L cap : Nat} {k : Dsk} {X : Nat → Prop}
theorem Touch.bsp {S : Nat → Prop} {a b : World} (k : Touch S a b) {A : Option Addr} {n c : Nat} {l : List UInt8} (h : Bs a A n c l) (hn : 0 < n → ∀ ad, A = some ad → ¬ S ad.block) : Bs b A n c l := by
  rcases Nat.eq_zero_or_pos n with h0 | h0
  · exact ⟨h.1, h.2.1, h.2.2.1, fun h1 => absurd h1 (by omega)⟩
  · exact k.bs h (hn h0)
set_option maxHeartbeats 4000000 in
theorem RefWrite_ok (h : OnRef X w r L cap k) (A : Option Addr) (n c' : Nat) (l : List UInt8) (hB : Bs w A n c' l) (hA : 0 < n → ∀ ad, A = some ad → ad.block ≠ r ∧ ad.block ≠ L) (i m : Nat) (hm : n = m * k.size) (hi : i + m ≤ k.n) (hon : k.on) :
    Calls Tryz.prog 52 #[.pointer (some ⟨r, 0, none⟩), .int .i64 (i : Int), .slice A n c'] w fun e w' => e = .returned (.int .i64 0) ∧ OnRef X w' r L cap (k.rless.puts i l m) ∧ Touch (fun b => b = r ∨ b = L) w w' := by
  have HP := Lib.hid (fun q : Nat => show Calls _ _ _ (w.drewN q) fun e w' => e = .returned (.bool true) ∧ OnRef X w' r L cap k.rless ∧ Touch (· = r) (w.drewN q) w' from by
    have hp := Rpower_ok (h.below (below_drewN (Below.refl _ _) q))
    rw [decide_eq_true hon, if_pos hon] at hp
    exact hp)
  have hn2 := h.n2
  have hs1 := h.s1
  have hs2 := h.s2
  have c0 : w.cell? ⟨r, 0, none⟩ = some (.int .i64 (k.size : Int)) := blk_cell h.blk 0
  have c1 : w.cell? ⟨r, 1, none⟩ = some (.slice (some ⟨L, 0, none⟩) k.n cap) := blk_cell h.blk 1
  have rd : k.rless.n = k.n ∧ k.rless.size = k.size := by unfold Dsk.rless; split <;> exact ⟨rfl, rfl⟩
  have hnb : n ≤ 65536 * 8192 := by rw [hm]; exact Nat.mul_le_mul (by omega) hs2
  have hrem : (n : Int) % (k.size : Int) = 0 := by rw [hm]; simp
  have hquo : (n : Int) / (k.size : Int) = (m : Int) := by rw [hm]; push_cast; rw [Int.mul_ediv_cancel _ (by omega)]
  have k1 : decide ((i : Int) < 0) = false := by simp
  have k2 : decide ((k.n : Int) < (i : Int)) = false := by simp; omega
  have k2' : decide (k.n < i) = false := by simp; omega
  have k3 : IntKind.i64.wrap ((k.n : Int) - (i : Int)) = (k.n : Int) - (i : Int) := by rw [IntKind.wrap_i64]; omega
  have k4 : decide ((k.n : Int) - (i : Int) < (m : Int)) = false := by simp; omega
  have HM := Lib.hid hm
  have HRD := Lib.hid rd
  have HB := Lib.hid hB
  have HA := Lib.hid hA
  clear h rd hm hB hA
  generalize k.rless = k0 at HP HRD ⊢
  go_enter Tryz.func52, Tryz.ntmps52
  go_wp2
  go_quiet (fail)
  rename_i nq
  have HPQ := Lib.hid (HP.out nq)
  have HT0 := Lib.hid (show Touch (fun b => b = r ∨ b = L) w (w.drewN nq) from Touch.of_below (below_drewN (Below.refl _ _) nq))
  clear HP k1 k2 k2' k3 k4 c0 c1
  generalize w.drewN nq = w1 at HPQ HT0 ⊢
  go_wp2_with (go_at_call 53; go_must (refine HPQ.out.mono ?_; rintro e wx ⟨rfl, hd, ht⟩; have HD := Lib.hid hd; have HT := Lib.hid (HT0.out.trans (ht.mono fun _ _ h => .inl h)); clear hd ht))
  go_loopw [7] (fun i' wr => ∃ (j : Nat), j ≤ m ∧ i' = .int .i64 (j : Int) ∧ Hid (OnRef X wr r L cap (k0.puts i l j)) ∧ Hid (Touch (fun b => b = r ∨ b = L) w wr)) (fun i' _ => m - (intOf i').toNat)
  case atStart => exact ⟨0, Nat.zero_le _, rfl, HD, HT⟩
  case round =>
    obtain ⟨j, hj, rfl, hd, ht⟩ := hrel
    have hdim := k0.puts_dims i l j
    have r0 : wr.cell? ⟨r, 0, none⟩ = some (.int .i64 ((k0.puts i l j).size : Int)) := blk_cell hd.out.blk 0
    have r1 : wr.cell? ⟨r, 1, none⟩ = some (.slice (some ⟨L, 0, none⟩) (k0.puts i l j).n cap) := blk_cell hd.out.blk 1
    rw [hdim.2.1, HRD.out.2] at r0
    rw [hdim.1, HRD.out.1] at r1
    obtain ⟨p, hp⟩ : ∃ p, p = j * k.size := ⟨_, rfl⟩
    have hpn : p ≤ 65536 * 8192 := by rw [hp]; exact Nat.mul_le_mul (by omega) hs2
    have hw1 : IntKind.i64.wrap ((j : Int) * (k.size : Int)) = (p : Int) := by rw [IntKind.wrap_i64, ← Int.natCast_mul, ← hp]; omega
    by_cases hlt : j < m
    · have hpq : p + k.size ≤ n := by
        have : (j + 1) * k.size ≤ m * k.size := Nat.mul_le_mul_right _ hlt
        rw [Nat.add_mul, Nat.one_mul, ← hp, ← HM.out] at this
        exact this
      have hw2 : IntKind.i64.wrap (((j : Int) + 1) * (k.size : Int)) = ((p + k.size : Nat) : Int) := by
        have e : ((j : Int) + 1) * (k.size : Int) = ((p + k.size : Nat) : Int) := by rw [Int.add_mul, Int.one_mul, ← Int.natCast_mul, ← hp]; push_cast; rfl
        rw [e, IntKind.wrap_i64]; omega
      obtain ⟨q, hq⟩ : ∃ q, q = i + j := ⟨_, rfl⟩
      have hw3 : IntKind.i64.wrap ((i : Int) + (j : Int)) = (q : Int) := by rw [IntKind.wrap_i64]; omega
      have hqn : (q : Int) < (k.n : Int) := by omega
      have hbn : p < n := by omega
      have hat := hd.out.at_ q (by rw [hdim.1, HRD.out.1]; omega)
      have f1 := hat.l
      generalize Value.bool ((k0.puts i l j).loose q).isSome = v1 at f1
      obtain ⟨v2, f2⟩ : ∃ v2, wr.cell? ⟨L, q * 4 + 2, none⟩ = some v2 := by
        have := hat.nw
        split at this
        · exact ⟨_, this⟩
        · obtain ⟨_, _, h1, _⟩ := this
          exact ⟨_, h1⟩
      have fz : ∀ o, wr.frozen? ⟨L, o, none⟩ = false := fun o => by obtain ⟨cur, hr1, _⟩ := hd.out.row; exact blk_frozen hr1 o
      have z1 := fz (q * 4 + 1)
      have z2 := fz (q * 4 + 2)
      have HP := Lib.hid hp
      have HQ := Lib.hid hq
      have hbn2 : (p : Int) < (n : Int) := by omega
      have hpk : j * k.size = p := hp.symm
      have HPK := Lib.hid hpk
      have hHNS : ∀ (w5 : World) (A5 : Option Addr) (c5 : Nat) (l5 : List UInt8), Below wr.heap.size (wr.setCell ⟨L, q * 4 + 1, none⟩ (.bool true)) w5 → Bs w5 A5 k.size c5 l5 → (∀ ad, A5 = some ad → ¬ X ad.block) → OnRef X (w5.setCell ⟨L, q * 4 + 2, none⟩ (.slice A5 k.size c5)) r L cap ((k0.puts i l j).put q l5) ∧ Touch (· = L) wr (w5.setCell ⟨L, q * 4 + 2, none⟩ (.slice A5 k.size c5)) := fun w5 A5 c5 l5 h1 h2 h3 => by
        have e : (k0.puts i l j).size = k.size := hdim.2.1.trans HRD.out.2
        have := hd.out.newSec q (by rw [hdim.1, HRD.out.1]; omega) (A := A5) (c := c5) (l := l5) h1 (by rw [e]; exact h2) h3
        rw [e] at this
        exact this
      have HNS := Lib.hid hHNS
      have hne := hd.out.ne
      have hxlt := hd.out.xlt
      have HXL := Lib.hid hxlt
      have HPUT := Lib.hid (show k0.puts i l (j + 1) = (k0.puts i l j).put q ((l.drop p).take k.size) by simp only [Dsk.puts]; rw [HRD.out.2, hpk, hq])
      have hBr : Bs wr A n c' l := ht.out.bsp HB.out fun h0 ad e h => h.elim (HA.out h0 ad e).1 (HA.out h0 ad e).2
      obtain ⟨p2, hp2⟩ : ∃ p2, p2 = p + k.size := ⟨_, rfl⟩
      have hw2' : IntKind.i64.wrap (((j : Int) + 1) * (k.size : Int)) = (p2 : Int) := by rw [hw2, hp2]
      obtain ⟨A4, hk1, hk2, hk3⟩ := cutB2 A n c' p p2 (by omega) (by omega) hBr.2.1
      have e4 : p2 - p = k.size := by omega
      rw [e4] at hk1 hk2
      have HK2 := Lib.hid hk2
      have t1 : Touch (· = L) wr (wr.setCell ⟨L, q * 4 + 1, none⟩ (.bool true)) := Touch.of_set _ _ rfl
      have s0 := t1.cell r0 hne
      have s1 := t1.cell r1 hne
      have s2 := (hd.out.rowL.cell_ne (q * 4 + 1) (q * 4 + 2) (.bool true) (by omega)).trans f2
      have sz2 : (wr.setCell ⟨L, q * 4 + 1, none⟩ (.bool true)).frozen? ⟨L, q * 4 + 2, none⟩ = false := by obtain ⟨cur, hr1, _⟩ := hd.out.rowL.set (q * 4 + 1) (.bool true); exact blk_frozen hr1 _
      have hBS := hBr.setp (p := ⟨L, q * 4 + 1, none⟩) (fun h0 ad e => (HA.out h0 ad e).2) (.bool true)
      have HBS := Lib.hid hBS
      have hsz : (wr.setCell ⟨L, q * 4 + 1, none⟩ (.bool true)).heap.size = wr.heap.size := by simp [World.setCell]
      have hLl : L < wr.heap.size := by obtain ⟨cur, hr1, _⟩ := hd.out.rowL; exact blk_lt hr1
      have hrl : r < wr.heap.size := blk_lt hd.out.blk
      have hHT : Touch (fun b => b = r ∨ b = L) w wr := ht.out
      have HT2 := Lib.hid hHT
      clear hat fz hp hq hdim hbn hpk hHNS hxlt hBr hw2 hp2 hk2 hk3 hBS e4 t1 hd ht
      go_wp2
      clear r0 r1 f1 f2 z1 z2
      generalize wr.setCell ⟨L, q * 4 + 1, none⟩ (.bool true) = W1 at s0 s1 s2 sz2 HNS HBS hsz ⊢
      have HQ1 := Lib.hid (own_lit0 W1 5)
      have HSZ := Lib.hid hsz
      have hwj : IntKind.i64.wrap ((j : Int) + 1) = (j : Int) + 1 := IntWalk.i64_in _ (by omega)
      have hrW : r < W1.heap.size := by rw [hsz]; exact hrl
      have hLW : L < W1.heap.size := by rw [hsz]; exact hLl
      clear hsz hrl hLl
      go_region_law ((refine step_append_rd rfl _ _ _ 5 rfl (.int .u8 0) 1 1 Tryz.underlying51 info_u8 rfl (by decide) (base := W1.heap.size) (n := 0) (v := .slice (some ⟨W1.heap.size, 0, none⟩) 0 0) (xs := []) (by exact HQ1.out) rfl (HK2.out _ _ (by exact HBS.out.alloc _)) rfl (bytes_oneCell _) (by omega) (by unfold maxLen; omega) (by simp) (fun A5 c5 w5 ho5 hg5 => ?_); have HO5 := Lib.hid ho5; have HG5 := Lib.hid hg5; have y0 := (hg5.g.cell (a := ⟨r, 0, none⟩) (v := .int .i64 (k.size : Int)) (by exact cell_keep ((Below.refl _ W1).alloc (Nat.le_refl _) (.cells #[] 5)) s0) (by simp [Value.ownBlock]; have := HSZ.out; omega)); have y1 := (hg5.g.cell (a := ⟨r, 1, none⟩) (v := .slice (some ⟨L, 0, none⟩) k.n cap) (by exact cell_keep ((Below.refl _ W1).alloc (Nat.le_refl _) (.cells #[] 5)) s1) (by simp [Value.ownBlock]; have := HSZ.out; omega)); have y2 := (hg5.g.cell (a := ⟨L, q * 4 + 2, none⟩) (v := v2) (by exact cell_keep ((Below.refl _ W1).alloc (Nat.le_refl _) (.cells #[] 5)) s2) (by simp [Value.ownBlock]; have := HSZ.out; omega)); have f5 : w5.frozen? ⟨L, q * 4 + 2, none⟩ = false := ((World.frozen?_of_block (a := ⟨L, q * 4 + 2, none⟩) (hg5.g.block L (by simp; have := HSZ.out; omega) (by simp [Value.ownBlock]; have := HSZ.out; omega))).trans (by exact (((Below.refl _ W1).alloc (Nat.le_refl _) (.cells #[] 5)).frozen (p := ⟨L, q * 4 + 2, none⟩) hLW).trans sz2)); clear ho5 hg5))
      all_goals
        go_wp2
        go_roundw
        case rel =>
          have hown5 : w5.ownsRow W1.heap.size 5 1 (.slice A5 k.size c5) k.size (bytes ((l.drop p).take k.size)) := by simpa using HO5.out
          have hbw := HG5.out.below (((Below.refl _ W1).alloc (Nat.le_refl _) (.cells #[] 5)).drew) HQ1.out (Nat.le_refl _)
          have hfr : ∀ ad, A5 = some ad → ¬ X ad.block := by
            intro ad e hx
            subst e
            have h1 := (own_base hown5 ad.block rfl).1
            have h2 := HXL.out _ hx
            have h3 := HSZ.out
            omega
          rw [HSZ.out] at hbw
          obtain ⟨hn1, ht1⟩ := HNS.out w5 A5 c5 _ hbw (Bs.of_own hown5) hfr
          exact ⟨j + 1, by omega, by go_num, Lib.hid (by rw [HPUT.out]; first | exact hn1 | exact hn1.below ((Below.refl _ _).drew)), Lib.hid (HT2.out.trans (Touch.trans (ht1.mono fun _ _ h => .inr h) (by first | exact Touch.refl _ _ | exact Touch.of_below ((Below.refl _ _).drew))))⟩
        case measure => simp [intOf]; omega
    · obtain rfl : j = m := by omega
      have HP := Lib.hid hp
      have hbn : ¬ (p : Int) < (n : Int) := by have := HM.out; omega
      clear hp hdim
      go_wp2
      go_ret
      exact ⟨rfl, hd.out, ht.out⟩
end
end Go.Proofs.YtaldjmhikebecaaGreat
