/- The reference of layer 8: Crash. -/
import Derived.Test.YtaldjmhikebecaaGreatFall
import Derived.Test.YtaldjmhikebecaaGreatRefBar
import Derived.Deep.RegionLaw
import Derived.BigQuiet
import Derived.IntWalk
namespace Go.Proofs.YtaldjmhikebecaaGreat
open Go Go.RowKit
set_option maxRecDepth 100000
set_option linter.unusedVariables false
attribute [local go_sem] Oper.semAt_some
section
variable {w w' : World} {r L cap : Nat} {k : Dsk} {X : Nat → Prop}
def rTouch (r L : Nat) : Nat → Prop := fun b => b = r ∨ b = L
theorem Rd.touch {S : Nat → Prop} {size n c : Nat} {A : Option Addr} {xs : List Value} (h : Rd w size A n c xs) (t : Touch S w w') (hA : 0 < n → ∀ ad, A = some ad → ¬ S ad.block) : Rd w' size A n c xs := by
  refine ⟨h.1, h.2.1, h.2.2.1, fun h0 => ?_⟩
  obtain ⟨ad, e, hc⟩ := h.2.2.2 h0
  exact ⟨ad, e, fun j u hu => t.cell (hc j u hu) (by rw [block_add]; exact hA h0 ad e)⟩
/-- What stays in a round of the reference's crash. -/
structure Stay (w : World) (r L : Nat) (KA : Option Addr) (m kc : Nat) (keep : List Bool) (torn cut : Int) (LA : Option Addr) (n lc : Nat) (ls : List Nat) (wr : World) : Prop where
  row : Rd wr 1 LA n lc ((ints ls).map (Value.int .i64))
  keep : Rd wr 1 KA m kc (keep.map Value.bool)
  touch : Touch (rTouch r L) w wr
  box : wr.heap[w.heap.size]? = some (.cells #[.slice KA m kc, .int .i64 torn, .int .i64 cut] 33 (0, 0))
theorem Stay.on {KA LA : Option Addr} {m kc n lc : Nat} {keep : List Bool} {torn cut : Int} {ls : List Nat} {wr wx : World} (h : Stay w r L KA m kc keep torn cut LA n lc ls wr) (t : Touch (· = L) wr wx) (hL : L < w.heap.size) (hKA : 0 < m → ∀ ad, KA = some ad → ad.block ≠ L) (hLA : ∀ ad, LA = some ad → w.heap.size ≤ ad.block) : Stay w r L KA m kc keep torn cut LA n lc ls wx :=
  ⟨h.row.touch t fun _ ad e he => by have := hLA ad e; omega, h.keep.touch t hKA, h.touch.trans (t.mono fun _ _ h => .inr h), t.blk h.box (by omega)⟩
theorem belowSet {B : Nat} {a b : World} (h : Below B a b) (p : Addr) (v : Value) (hp : B ≤ p.block) : Below B a (b.setCell p v) :=
  h.trans ⟨rfl, rfl, rfl, by simp [World.setCell], fun i hi => Below.heap_setCell _ _ _ i (by omega)⟩
theorem belowAt {B : Nat} {a b : World} (h : Below B a b) (o : Nat) (v : Value) : Below B a (b.setCell ⟨B, o, none⟩ v) := belowSet h _ v (Nat.le_refl _)
theorem fall_round {keep : List Bool} {torn cut : Int} {j q : Nat} {wr W : World} (hd : OnRef X wr r L cap (k.falling keep torn cut j)) (hb : Below wr.heap.size wr W) (hq : q < k.n) {A : Option Addr} {c : Nat} {l : List UInt8} {b : Bool} (hB : Bs W A k.size c l) (hA : ∀ ad, A = some ad → ¬ X ad.block) (ha : Alike ((k.falling keep torn cut j).sec4 q l b) (k.falling keep torn cut (j + 1))) :
    OnRef X (set4 W L q (.slice A k.size c) (.bool false) (.slice none 0 0) (.bool b)) r L cap (k.falling keep torn cut (j + 1)) ∧ Touch (· = L) wr (set4 W L q (.slice A k.size c) (.bool false) (.slice none 0 0) (.bool b)) := by
  have d := falling_dims (k := k) (keep := keep) (torn := torn) (cut := cut) (j := j)
  have h := (hd.below hb).putSec q (by rw [d.1]; exact hq) (A := A) (c := c) (l := l) b (by rw [d.2.1]; exact hB) hA
  rw [d.2.1] at h
  exact ⟨h.1.alike ha, (Touch.of_below hb).trans h.2⟩
set_option maxHeartbeats 8000000 in
theorem RCrash_ok (h : OnRef X w r L cap k) (KA : Option Addr) (m kc : Nat) (keep : List Bool) (torn cut : Int) (hK : Rd w 1 KA m kc (keep.map Value.bool)) (hKA : 0 < m → ∀ ad, KA = some ad → ad.block ≠ r ∧ ad.block ≠ L) :
    Calls Tryz.prog 21 #[.pointer (some ⟨r, 0, none⟩), .agg #[.slice KA m kc, .int .i64 torn, .int .i64 cut]] w fun e w' =>
      (∃ v, e = .returned v) ∧ OnRef X w' r L cap { k.crash keep torn cut with left := 0 } ∧ Touch (rTouch r L) w w' := by
  have hn2 := h.n2
  have hs2 := h.s2
  have hL : L < w.heap.size := by obtain ⟨cur, hr1, _⟩ := h.row; exact blk_lt hr1
  have hr0 := blk_lt h.blk
  have hne := h.ne
  have b1 := (Below.refl _ w).alloc (Nat.le_refl _) (.cells #[.slice KA m kc, .int .i64 torn, .int .i64 cut] 33)
  have HLOO := Lib.hid (RLoose_ok (h.below b1))
  have HD := Lib.hid (h.below b1)
  have HK := Lib.hid (hK.below b1)
  have HX := Lib.hid (blk_new w (.cells #[.slice KA m kc, .int .i64 torn, .int .i64 cut] 33))
  have HB1 := Lib.hid b1
  have hkl : keep.length = m := by have := hK.1; simpa using this
  have hkm := hK.i64
  have HKL := Lib.hid hkl
  have hll := looseL_length k
  have HLEN := Lib.hid h.len
  have HLL := Lib.hid h.loose_len
  have HKA := Lib.hid (fun h0 ad e => (hKA h0 ad e).2)
  clear b1 h hK hkl hKA
  go_enter Tryz.func21, Tryz.ntmps21
  go_wp2_with (go_at_call 54; go_must (refine HLOO.out.mono ?_; rintro e w2 ⟨LA, lc, rfl, ho, hb⟩; have HST := Lib.hid (show Stay w r L KA m kc keep torn cut LA k.looseL.length lc k.looseL w2 from ⟨Rd.of_own ho, HK.out.below hb, Touch.of_below (HB1.out.trans (hb.mono HB1.out.size)), blk_below HX.out hb⟩); have HLA := Lib.hid (show ∀ ad, LA = some ad → w.heap.size ≤ ad.block from fun ad e => by subst e; have := (own_base ho ad.block rfl).1; simp at this; omega); have HD2 := Lib.hid (HD.out.below hb); clear ho hb))
  go_loopw [5] (fun i' wr => ∃ j : Nat, j ≤ k.looseL.length ∧ i' = .int .i64 (j : Int) ∧ Hid (OnRef X wr r L cap (k.falling keep torn cut j)) ∧ Hid (Stay w r L KA m kc keep torn cut LA k.looseL.length lc k.looseL wr)) (fun i' _ => k.looseL.length - (intOf i').toNat)
  case atStart => exact ⟨0, Nat.zero_le _, rfl, Lib.hid (by have e : k.falling keep torn cut 0 = k := by { simp [Dsk.falling, Dsk.crashAt] }; rw [e]; exact HD2.out), HST⟩
  case round =>
    obtain ⟨j, hj, rfl, hd, hst⟩ := hrel
    by_cases hlt : j < k.looseL.length
    · obtain ⟨ad, rfl, hcell⟩ := hst.out.row.at_ hlt
      obtain ⟨q, hqe⟩ : ∃ q, k.looseL[j]? = some q := ⟨_, List.getElem?_eq_getElem hlt⟩
      have hqm := mem_looseL.1 (List.mem_of_getElem? hqe)
      obtain ⟨l, hlo⟩ := Option.isSome_iff_exists.1 hqm.2
      have hqn := hqm.1
      have hcq : wr.cell? (ad.add j) = some (.int .i64 (q : Int)) := by
        rw [hcell]
        have : (ints k.looseL)[j]? = some (q : Int) := by simp [ints, hqe]
        have h2 := (List.getElem?_eq_some_iff.1 this).2
        simp only [List.getElem_map, h2]
      have hdim := falling_dims (k := k) (keep := keep) (torn := torn) (cut := cut) (j := j)
      have r1 : wr.cell? ⟨r, 1, none⟩ = some (.slice (some ⟨L, 0, none⟩) (k.falling keep torn cut j).n cap) := blk_cell hd.out.blk 1
      have r0 : wr.cell? ⟨r, 0, none⟩ = some (.int .i64 ((k.falling keep torn cut j).size : Int)) := blk_cell hd.out.blk 0
      rw [hdim.1] at r1
      rw [hdim.2.1] at r0
      have hat := hd.out.at_ q (by rw [hdim.1]; exact hqn)
      obtain ⟨FA, fc, f0, fB, fA⟩ := hat.f
      have f1 := hat.l
      have f3 := hat.b
      have fn := hat.nw
      rw [falling_loose hqe hlo] at f1 fn
      obtain ⟨NA, nc, f2, nB, nA⟩ := fn
      rw [hdim.2.1] at f0 f2 fB nB
      have f1 : wr.cell? ⟨L, q * 4 + 1, none⟩ = some (.bool true) := f1
      have x0 : wr.cell? ⟨w.heap.size, 0, none⟩ = some (.slice KA m kc) := blk_cell hst.out.box 0
      have x1 : wr.cell? ⟨w.heap.size, 1, none⟩ = some (.int .i64 torn) := blk_cell hst.out.box 1
      have x2 : wr.cell? ⟨w.heap.size, 2, none⟩ = some (.int .i64 cut) := blk_cell hst.out.box 2
      have hwr := hst.out.touch.size
      have hbx := blk_lt hst.out.box
      have hqk : (q : Int) < (k.n : Int) := by omega
      have HFB := Lib.hid fB
      have HFA := Lib.hid fA
      have HNB := Lib.hid nB
      have HNA := Lib.hid nA
      have HQE := Lib.hid hqe
      have HLO := Lib.hid hlo
      have HQN := Lib.hid hqn
      obtain ⟨bq, hbq⟩ : ∃ bq, bq = (k.falling keep torn cut j).bad q := ⟨_, rfl⟩
      rw [← hbq] at f3
      have HBQ := Lib.hid hbq
      have hrw : r < wr.heap.size := by omega
      have hLw : L < wr.heap.size := by omega
      have hcq' : (wr.alloc (.cells #[.slice none 0 0, .bool false, .slice none 0 0, .bool false] 101)).cell? (ad.add j) = some (.int .i64 (q : Int)) := cell_keep ((Below.refl _ wr).alloc (Nat.le_refl _) _) hcq
      clear hat fB fA nB nA hqe hlo hqm hcell hdim hbq hqn
      have hrow := hd.out.rowL
      have HROW := Lib.hid hrow
      clear hrow
      go_wp2
      go_region
      have hb6 : Below wr.heap.size wr ((wr.alloc (.cells #[.slice FA k.size fc, .bool true, .slice NA k.size nc, .bool bq] 101)).drew) := ((Below.refl _ wr).alloc (Nat.le_refl _) _).drew
      have hk6 : ((wr.alloc (.cells #[.slice FA k.size fc, .bool true, .slice NA k.size nc, .bool bq] 101)).drew).heap[wr.heap.size]? = some (.cells #[.slice FA k.size fc, .bool true, .slice NA k.size nc, .bool bq] 101 (0, 0)) := blk_new wr _
      generalize ((wr.alloc (.cells #[.slice FA k.size fc, .bool true, .slice NA k.size nc, .bool bq] 101)).drew) = W6 at hb6 hk6 ⊢
      have R1 := Lib.hid r1
      have HCQ := Lib.hid hcq
      have E0 := Lib.hid f0
      have E1 := Lib.hid f1
      have E2 := Lib.hid f2
      have E3 := Lib.hid f3
      have HK6 := Lib.hid hk6
      have g0 := cell_keep hb6 r0
      have g1 := cell_keep hb6 r1
      have gq := cell_keep hb6 hcq
      have v0 := cell_keep hb6 x0
      have v1 := cell_keep hb6 x1
      have v2 := cell_keep hb6 x2
      have e0 := cell_keep hb6 f0
      have e1 := cell_keep hb6 f1
      have e2 := cell_keep hb6 f2
      have e3 := cell_keep hb6 f3
      have s0 : W6.cell? ⟨wr.heap.size, 0, none⟩ = some (.slice FA k.size fc) := blk_cell hk6 0
      have s1 : W6.cell? ⟨wr.heap.size, 1, none⟩ = some (.bool true) := blk_cell hk6 1
      have s2 : W6.cell? ⟨wr.heap.size, 2, none⟩ = some (.slice NA k.size nc) := blk_cell hk6 2
      have s3 : W6.cell? ⟨wr.heap.size, 3, none⟩ = some (.bool bq) := blk_cell hk6 3
      have fs : ∀ o, W6.frozen? ⟨wr.heap.size, o, none⟩ = false := fun o => blk_frozen hk6 o
      have fs0 := fs 0
      have fs1 := fs 1
      have fs2 := fs 2
      have fs3 := fs 3
      have fl : ∀ o, W6.frozen? ⟨L, o, none⟩ = false := fun o => by obtain ⟨cur, hc1, _⟩ := HROW.out; exact blk_frozen (blk_below hc1 hb6) o
      have fl0 := fl (q * 4)
      have fl1 := fl (q * 4 + 1)
      have fl2 := fl (q * 4 + 2)
      have fl3 := fl (q * 4 + 3)
      have HB6 := Lib.hid hb6
      have hnL : L ≠ wr.heap.size := by omega
      have hnr : r ≠ wr.heap.size := by omega
      have hnw : w.heap.size ≠ wr.heap.size := by omega
      have hnad : ad.block ≠ wr.heap.size := by have := World.block_lt_of_cell? wr _ hcq; rw [block_add] at this; omega
      have hwL := HROW.out
      clear hcq hcq' r0 r1 x0 x1 x2 f0 f1 f2 f3 fs fl hb6 hk6 hwL
      by_cases htj : (j : Int) = torn
      · have HTJ := Lib.hid htj
        have he : ((j : Int) == torn) = true := by rw [beq_iff_eq]; exact htj
        obtain ⟨qn, hqc⟩ : ∃ qn, qn = cutN cut k.size := ⟨_, rfl⟩
        have hqs : qn ≤ k.size := by rw [hqc]; exact Nat.min_le_right _ _
        have hcut : min (max cut 0) (k.size : Int) = (qn : Int) := by rw [hqc, cutN, ← Int.ofNat_toNat cut]; omega
        have HQC := Lib.hid hqc
        clear hqc htj
        cases bq with
        | true =>
          go_wp2
          go_region
          go_wp2
          have hk12 : ((W6.setCell ⟨wr.heap.size, 1, none⟩ (.bool false)).setCell ⟨wr.heap.size, 2, none⟩ (.slice none 0 0)).drew.heap[wr.heap.size]? = some (.cells #[.slice FA k.size fc, .bool false, .slice none 0 0, .bool true] 101 (0, 0)) := blk_set (blk_set HK6.out 1 _) 2 _
          have hb12 : Below wr.heap.size wr ((W6.setCell ⟨wr.heap.size, 1, none⟩ (.bool false)).setCell ⟨wr.heap.size, 2, none⟩ (.slice none 0 0)).drew := (belowAt (belowAt HB6.out 1 (.bool false)) 2 (.slice none 0 0)).drew
          have ha := fall_bad (cut := cut) HLEN.out HLL.out HQE.out HQN.out HTJ.out HBQ.out.symm
          have hB := HFB.out.below ((belowAt (belowAt HB6.out 1 (.bool false)) 2 (.slice none 0 0)).drew)
          have hf := HFA.out
          generalize ((W6.setCell ⟨wr.heap.size, 1, none⟩ (.bool false)).setCell ⟨wr.heap.size, 2, none⟩ (.slice none 0 0)).drew = W12 at hk12 hb12 hB ⊢
          have g1 := cell_keep hb12 R1.out
          have gq := cell_keep hb12 HCQ.out
          have e0 := cell_keep hb12 E0.out
          have e1 := cell_keep hb12 E1.out
          have e2 := cell_keep hb12 E2.out
          have e3 := cell_keep hb12 E3.out
          have s0 : W12.cell? ⟨wr.heap.size, 0, none⟩ = some (.slice FA k.size fc) := blk_cell hk12 0
          have s1 : W12.cell? ⟨wr.heap.size, 1, none⟩ = some (.bool false) := blk_cell hk12 1
          have s2 : W12.cell? ⟨wr.heap.size, 2, none⟩ = some (.slice none 0 0) := blk_cell hk12 2
          have s3 : W12.cell? ⟨wr.heap.size, 3, none⟩ = some (.bool true) := blk_cell hk12 3
          have fl : ∀ o, W12.frozen? ⟨L, o, none⟩ = false := fun o => by obtain ⟨cur, hc1, _⟩ := HROW.out; exact blk_frozen (blk_below hc1 hb12) o
          have fl0 := fl (q * 4)
          have fl1 := fl (q * 4 + 1)
          have fl2 := fl (q * 4 + 2)
          have fl3 := fl (q * 4 + 3)
          have hfr := fall_round hd.out hb12 HQN.out hB hf ha
          have HFR := Lib.hid hfr
          clear hfr hB hf ha fl hk12 hb12
          go_region
          all_goals
            go_wp2
            go_roundw
            case rel =>
              refine ⟨j + 1, by omega, by go_num, Lib.hid ?_, Lib.hid ?_⟩
              · exact HFR.out.1.below ((Below.refl _ _).drew)
              · exact hst.out.on (HFR.out.2.trans (Touch.of_below ((Below.refl _ _).drew))) hL HKA.out HLA.out
            case measure => simp [intOf]; omega
        | false =>
          go_wp2
          go_region
          have hnl := HNB.out
          have HTK := Lib.hid (hnl.take hqs nc (Nat.le_trans hqs hnl.2.1) hnl.2.2.1)
          have hsl := cut_to NA k.size nc qn (Nat.le_trans hqs hnl.2.1)
          obtain ⟨A4, hk1, hk2, _⟩ := cutB FA k.size fc qn hqs
          obtain ⟨m2, hm2⟩ : ∃ m2, m2 = k.size - qn := ⟨_, rfl⟩
          rw [← hm2] at hk1 hk2
          have HKK := Lib.hid hk2
          have HM2 := Lib.hid (show qn + m2 = k.size by omega)
          have hm3 : m2 ≤ 8192 := by omega
          have hqn8 : qn ≤ 8192 := by omega
          have HQ1 := Lib.hid (own_lit0 W6 5)
          have HBL := Lib.hid (blk_lt HK6.out)
          have hbl6 : wr.heap.size < W6.heap.size := HBL.out
          have HS := Lib.hid (show W6.cell? ⟨wr.heap.size, 0, none⟩ = some (.slice FA k.size fc) ∧ W6.cell? ⟨wr.heap.size, 2, none⟩ = some (.slice NA k.size nc) from ⟨s0, s2⟩)
          have HF0 := Lib.hid fs0
          have HF1 := Lib.hid fs1
          have HF2 := Lib.hid fs2
          have HS1 := Lib.hid s1
          clear hnl hk2 hm2
          go_wp2
          go_region_law (first
            | (refine step_append_rd rfl _ _ _ 5 rfl (.int .u8 0) 1 1 Tryz.underlying51 info_u8 rfl (by decide) (base := W6.heap.size) (n := 0 + qn) (v := .slice A5 (0 + qn) c5) (xs := [] ++ bytes (l.take qn)) (by exact HO5.out) (by first | rfl | exact (congrArg (Value.slice A5 · c5) (Nat.zero_add qn).symm)) (HKK.out _ _ (by exact (HFB.out.below HB6.out).below HB5.out)) rfl (bytes_oneCell _) (by omega) (by unfold maxLen; omega) (by have := HB5.out.size; omega) (fun A7 c7 w7 ho7 hg7 => ?_)
               have HO7 := Lib.hid ho7
               have HB7 := Lib.hid (hg7.below HB5.out HO5.out (Nat.le_refl _))
               have y0 := cell_keep HB7.out HS.out.1
               have y1 := cell_keep HB7.out HS1.out
               have y2 := cell_keep HB7.out HS.out.2
               have z0 : w7.frozen? ⟨wr.heap.size, 0, none⟩ = false := (HB7.out.frozen (p := ⟨wr.heap.size, 0, none⟩) HBL.out).trans HF0.out
               have z1 : w7.frozen? ⟨wr.heap.size, 1, none⟩ = false := (HB7.out.frozen (p := ⟨wr.heap.size, 1, none⟩) HBL.out).trans HF1.out
               have z2 : w7.frozen? ⟨wr.heap.size, 2, none⟩ = false := (HB7.out.frozen (p := ⟨wr.heap.size, 2, none⟩) HBL.out).trans HF2.out
               clear ho7 hg7)
            | (refine step_append_rd rfl _ _ _ 5 rfl (.int .u8 0) 1 1 Tryz.underlying51 info_u8 rfl (by decide) (base := W6.heap.size) (n := 0) (v := .slice (some ⟨W6.heap.size, 0, none⟩) 0 0) (xs := []) (by exact HQ1.out) rfl (by exact (HTK.out.below HB6.out).alloc _) rfl (bytes_oneCell _) (by omega) (by unfold maxLen; omega) (by simp) (fun A5 c5 w5 ho5 hg5 => ?_)
               have HO5 := Lib.hid ho5
               have HB5 := Lib.hid (hg5.below (w0 := W6) (by exact ((Below.refl _ W6).alloc (Nat.le_refl _) (.cells #[] 5)).drew.drew) HQ1.out (Nat.le_refl _))
               have y0 := cell_keep HB5.out HS.out.1
               have y2 := cell_keep HB5.out HS.out.2
               clear ho5 hg5))
          all_goals
            go_wp2
            have e := HM2.out
            rw [e]
            have ho := HO7.out
            rw [Nat.zero_add, e, List.nil_append, ← bytes_append] at ho
            have HK7 := Lib.hid ((HB7.out.block _ HBL.out).trans HK6.out)
            have HBW := Lib.hid (HB6.out.trans (HB7.out.mono HB6.out.size))
            have hfr7 : ∀ ad, A7 = some ad → W6.heap.size ≤ ad.block := by
              intro ad ea
              subst ea
              exact (own_base ho ad.block rfl).1
            have HFR7 := Lib.hid hfr7
            have hn7 : ∀ ad, A7 = some ad → ad.block ≠ wr.heap.size := fun ad ea => by have := hfr7 ad ea; omega
            have HBB := Lib.hid (((((Bs.of_own ho).set (p := ⟨wr.heap.size, 0, none⟩) hn7 (.slice A7 k.size c7)).set (p := ⟨wr.heap.size, 1, none⟩) hn7 (.bool false)).set (p := ⟨wr.heap.size, 2, none⟩) hn7 (.slice none 0 0)))
            clear ho hfr7 hn7 e
            have hk12 : (((w7.setCell ⟨wr.heap.size, 0, none⟩ (.slice A7 k.size c7)).setCell ⟨wr.heap.size, 1, none⟩ (.bool false)).setCell ⟨wr.heap.size, 2, none⟩ (.slice none 0 0)).heap[wr.heap.size]? = some (.cells #[.slice A7 k.size c7, .bool false, .slice none 0 0, .bool false] 101 (0, 0)) := blk_set (blk_set (blk_set HK7.out 0 _) 1 _) 2 _
            have hb12 : Below wr.heap.size wr (((w7.setCell ⟨wr.heap.size, 0, none⟩ (.slice A7 k.size c7)).setCell ⟨wr.heap.size, 1, none⟩ (.bool false)).setCell ⟨wr.heap.size, 2, none⟩ (.slice none 0 0)) := (belowAt (belowAt (belowAt HBW.out 0 (.slice A7 k.size c7)) 1 (.bool false)) 2 (.slice none 0 0))
            have ha := (by have := fall_torn (cut := cut) HLEN.out HLL.out HQE.out HQN.out HLO.out HTJ.out HBQ.out.symm; rw [← HQC.out] at this; exact this : Alike ((k.falling keep torn cut j).sec4 q (l.take qn ++ ((k.falling keep torn cut j).at_ q).drop qn) false) (k.falling keep torn cut (j + 1)))
            have hB := HBB.out
            have hf := (show ∀ ad, A7 = some ad → ¬ X ad.block from fun ad ea hx => by have h1 := HFR7.out ad ea; have h2 := hd.out.xlt _ hx; have h3 := HB6.out.size; omega)
            generalize (((w7.setCell ⟨wr.heap.size, 0, none⟩ (.slice A7 k.size c7)).setCell ⟨wr.heap.size, 1, none⟩ (.bool false)).setCell ⟨wr.heap.size, 2, none⟩ (.slice none 0 0)) = W12 at hk12 hb12 hB ⊢
            have g1 := cell_keep hb12 R1.out
            have gq := cell_keep hb12 HCQ.out
            have e0 := cell_keep hb12 E0.out
            have e1 := cell_keep hb12 E1.out
            have e2 := cell_keep hb12 E2.out
            have e3 := cell_keep hb12 E3.out
            have s0 : W12.cell? ⟨wr.heap.size, 0, none⟩ = some (.slice A7 k.size c7) := blk_cell hk12 0
            have s1 : W12.cell? ⟨wr.heap.size, 1, none⟩ = some (.bool false) := blk_cell hk12 1
            have s2 : W12.cell? ⟨wr.heap.size, 2, none⟩ = some (.slice none 0 0) := blk_cell hk12 2
            have s3 : W12.cell? ⟨wr.heap.size, 3, none⟩ = some (.bool false) := blk_cell hk12 3
            have fl : ∀ o, W12.frozen? ⟨L, o, none⟩ = false := fun o => by obtain ⟨cur, hc1, _⟩ := HROW.out; exact blk_frozen (blk_below hc1 hb12) o
            have fl0 := fl (q * 4)
            have fl1 := fl (q * 4 + 1)
            have fl2 := fl (q * 4 + 2)
            have fl3 := fl (q * 4 + 3)
            have hfr := fall_round hd.out hb12 HQN.out hB hf ha
            have HFR := Lib.hid hfr
            clear hfr hB hf ha fl hk12 hb12
            go_region
            all_goals
              go_wp2
              go_roundw
              case rel =>
                refine ⟨j + 1, by omega, by go_num, Lib.hid ?_, Lib.hid ?_⟩
                · exact HFR.out.1.below ((Below.refl _ _).drew)
                · exact hst.out.on (HFR.out.2.trans (Touch.of_below ((Below.refl _ _).drew))) hL HKA.out HLA.out
              case measure => simp [intOf]; omega
      · have HTJ := Lib.hid htj
        have he : ((j : Int) == torn) = false := by rw [beq_eq_false_iff_ne]; exact htj
        clear htj
        by_cases hjm : j < m
        · have hkj : W6.cell? ⟨w.heap.size, 0, none⟩ = some (.slice KA m kc) := v0
          obtain ⟨ka, rfl, hka⟩ := hst.out.keep.at_ hjm
          have hkb := cell_keep HB6.out hka
          have hkd : keep.getD j false = keep[j]'(by rw [HKL.out]; exact hjm) := by rw [List.getD_eq_getElem?_getD, List.getElem?_eq_getElem (by rw [HKL.out]; exact hjm)]; rfl
          simp only [List.getElem_map] at hkb
          generalize keep[j]'(by rw [HKL.out]; exact hjm) = kb at hkb hkd
          have HKD := Lib.hid hkd
          clear hka hkd
          have hjm' : (j : Int) < (m : Int) := by omega
          cases kb with
          | true =>
            go_wp2
            have hk12 : ((((W6.setCell ⟨wr.heap.size, 0, none⟩ (.slice NA k.size nc)).setCell ⟨wr.heap.size, 3, none⟩ (.bool false)).setCell ⟨wr.heap.size, 1, none⟩ (.bool false)).setCell ⟨wr.heap.size, 2, none⟩ (.slice none 0 0)).heap[wr.heap.size]? = some (.cells #[.slice NA k.size nc, .bool false, .slice none 0 0, .bool false] 101 (0, 0)) := blk_set (blk_set (blk_set (blk_set HK6.out 0 _) 3 _) 1 _) 2 _
            have hb12 : Below wr.heap.size wr ((((W6.setCell ⟨wr.heap.size, 0, none⟩ (.slice NA k.size nc)).setCell ⟨wr.heap.size, 3, none⟩ (.bool false)).setCell ⟨wr.heap.size, 1, none⟩ (.bool false)).setCell ⟨wr.heap.size, 2, none⟩ (.slice none 0 0)) := (belowAt (belowAt (belowAt (belowAt HB6.out 0 (.slice NA k.size nc)) 3 (.bool false)) 1 (.bool false)) 2 (.slice none 0 0))
            have ha := fall_keep (cut := cut) HLEN.out HLL.out HQE.out HQN.out HLO.out HTJ.out HKD.out
            have hB := HNB.out.below (belowAt (belowAt (belowAt (belowAt HB6.out 0 (.slice NA k.size nc)) 3 (.bool false)) 1 (.bool false)) 2 (.slice none 0 0))
            have hf := HNA.out
            generalize ((((W6.setCell ⟨wr.heap.size, 0, none⟩ (.slice NA k.size nc)).setCell ⟨wr.heap.size, 3, none⟩ (.bool false)).setCell ⟨wr.heap.size, 1, none⟩ (.bool false)).setCell ⟨wr.heap.size, 2, none⟩ (.slice none 0 0)) = W12 at hk12 hb12 hB ⊢
            have g1 := cell_keep hb12 R1.out
            have gq := cell_keep hb12 HCQ.out
            have e0 := cell_keep hb12 E0.out
            have e1 := cell_keep hb12 E1.out
            have e2 := cell_keep hb12 E2.out
            have e3 := cell_keep hb12 E3.out
            have s0 : W12.cell? ⟨wr.heap.size, 0, none⟩ = some (.slice NA k.size nc) := blk_cell hk12 0
            have s1 : W12.cell? ⟨wr.heap.size, 1, none⟩ = some (.bool false) := blk_cell hk12 1
            have s2 : W12.cell? ⟨wr.heap.size, 2, none⟩ = some (.slice none 0 0) := blk_cell hk12 2
            have s3 : W12.cell? ⟨wr.heap.size, 3, none⟩ = some (.bool false) := blk_cell hk12 3
            have fl : ∀ o, W12.frozen? ⟨L, o, none⟩ = false := fun o => by obtain ⟨cur, hc1, _⟩ := HROW.out; exact blk_frozen (blk_below hc1 hb12) o
            have fl0 := fl (q * 4)
            have fl1 := fl (q * 4 + 1)
            have fl2 := fl (q * 4 + 2)
            have fl3 := fl (q * 4 + 3)
            have hfr := fall_round hd.out hb12 HQN.out hB hf ha
            have HFR := Lib.hid hfr
            clear hfr hB hf ha fl hk12 hb12
            go_region
            all_goals
              go_wp2
              go_roundw
              case rel =>
                refine ⟨j + 1, by omega, by go_num, Lib.hid ?_, Lib.hid ?_⟩
                · exact HFR.out.1.below ((Below.refl _ _).drew)
                · exact hst.out.on (HFR.out.2.trans (Touch.of_below ((Below.refl _ _).drew))) hL HKA.out HLA.out
              case measure => simp [intOf]; omega
          | false =>
            go_wp2
            have hk12 : ((W6.setCell ⟨wr.heap.size, 1, none⟩ (.bool false)).setCell ⟨wr.heap.size, 2, none⟩ (.slice none 0 0)).heap[wr.heap.size]? = some (.cells #[.slice FA k.size fc, .bool false, .slice none 0 0, .bool bq] 101 (0, 0)) := blk_set (blk_set HK6.out 1 _) 2 _
            have hb12 : Below wr.heap.size wr ((W6.setCell ⟨wr.heap.size, 1, none⟩ (.bool false)).setCell ⟨wr.heap.size, 2, none⟩ (.slice none 0 0)) := (belowAt (belowAt HB6.out 1 (.bool false)) 2 (.slice none 0 0))
            have ha := (by rw [HBQ.out]; exact fall_none (cut := cut) HLEN.out HLL.out HQE.out HQN.out HTJ.out HKD.out : Alike ((k.falling keep torn cut j).sec4 q ((k.falling keep torn cut j).at_ q) bq) (k.falling keep torn cut (j + 1)))
            have hB := HFB.out.below (belowAt (belowAt HB6.out 1 (.bool false)) 2 (.slice none 0 0))
            have hf := HFA.out
            generalize ((W6.setCell ⟨wr.heap.size, 1, none⟩ (.bool false)).setCell ⟨wr.heap.size, 2, none⟩ (.slice none 0 0)) = W12 at hk12 hb12 hB ⊢
            have g1 := cell_keep hb12 R1.out
            have gq := cell_keep hb12 HCQ.out
            have e0 := cell_keep hb12 E0.out
            have e1 := cell_keep hb12 E1.out
            have e2 := cell_keep hb12 E2.out
            have e3 := cell_keep hb12 E3.out
            have s0 : W12.cell? ⟨wr.heap.size, 0, none⟩ = some (.slice FA k.size fc) := blk_cell hk12 0
            have s1 : W12.cell? ⟨wr.heap.size, 1, none⟩ = some (.bool false) := blk_cell hk12 1
            have s2 : W12.cell? ⟨wr.heap.size, 2, none⟩ = some (.slice none 0 0) := blk_cell hk12 2
            have s3 : W12.cell? ⟨wr.heap.size, 3, none⟩ = some (.bool bq) := blk_cell hk12 3
            have fl : ∀ o, W12.frozen? ⟨L, o, none⟩ = false := fun o => by obtain ⟨cur, hc1, _⟩ := HROW.out; exact blk_frozen (blk_below hc1 hb12) o
            have fl0 := fl (q * 4)
            have fl1 := fl (q * 4 + 1)
            have fl2 := fl (q * 4 + 2)
            have fl3 := fl (q * 4 + 3)
            have hfr := fall_round hd.out hb12 HQN.out hB hf ha
            have HFR := Lib.hid hfr
            clear hfr hB hf ha fl hk12 hb12
            go_region
            all_goals
              go_wp2
              go_roundw
              case rel =>
                refine ⟨j + 1, by omega, by go_num, Lib.hid ?_, Lib.hid ?_⟩
                · exact HFR.out.1.below ((Below.refl _ _).drew)
                · exact hst.out.on (HFR.out.2.trans (Touch.of_below ((Below.refl _ _).drew))) hL HKA.out HLA.out
              case measure => simp [intOf]; omega
        · have hjm' : ¬ (j : Int) < (m : Int) := by omega
          have HKD := Lib.hid (show keep.getD j false = false by simp [List.getD, List.getElem?_eq_none (show keep.length ≤ j by have := HKL.out; omega)])
          go_wp2
          have hk12 : ((W6.setCell ⟨wr.heap.size, 1, none⟩ (.bool false)).setCell ⟨wr.heap.size, 2, none⟩ (.slice none 0 0)).heap[wr.heap.size]? = some (.cells #[.slice FA k.size fc, .bool false, .slice none 0 0, .bool bq] 101 (0, 0)) := blk_set (blk_set HK6.out 1 _) 2 _
          have hb12 : Below wr.heap.size wr ((W6.setCell ⟨wr.heap.size, 1, none⟩ (.bool false)).setCell ⟨wr.heap.size, 2, none⟩ (.slice none 0 0)) := (belowAt (belowAt HB6.out 1 (.bool false)) 2 (.slice none 0 0))
          have ha := (by rw [HBQ.out]; exact fall_none (cut := cut) HLEN.out HLL.out HQE.out HQN.out HTJ.out HKD.out : Alike ((k.falling keep torn cut j).sec4 q ((k.falling keep torn cut j).at_ q) bq) (k.falling keep torn cut (j + 1)))
          have hB := HFB.out.below (belowAt (belowAt HB6.out 1 (.bool false)) 2 (.slice none 0 0))
          have hf := HFA.out
          generalize ((W6.setCell ⟨wr.heap.size, 1, none⟩ (.bool false)).setCell ⟨wr.heap.size, 2, none⟩ (.slice none 0 0)) = W12 at hk12 hb12 hB ⊢
          have g1 := cell_keep hb12 R1.out
          have gq := cell_keep hb12 HCQ.out
          have e0 := cell_keep hb12 E0.out
          have e1 := cell_keep hb12 E1.out
          have e2 := cell_keep hb12 E2.out
          have e3 := cell_keep hb12 E3.out
          have s0 : W12.cell? ⟨wr.heap.size, 0, none⟩ = some (.slice FA k.size fc) := blk_cell hk12 0
          have s1 : W12.cell? ⟨wr.heap.size, 1, none⟩ = some (.bool false) := blk_cell hk12 1
          have s2 : W12.cell? ⟨wr.heap.size, 2, none⟩ = some (.slice none 0 0) := blk_cell hk12 2
          have s3 : W12.cell? ⟨wr.heap.size, 3, none⟩ = some (.bool bq) := blk_cell hk12 3
          have fl : ∀ o, W12.frozen? ⟨L, o, none⟩ = false := fun o => by obtain ⟨cur, hc1, _⟩ := HROW.out; exact blk_frozen (blk_below hc1 hb12) o
          have fl0 := fl (q * 4)
          have fl1 := fl (q * 4 + 1)
          have fl2 := fl (q * 4 + 2)
          have fl3 := fl (q * 4 + 3)
          have hfr := fall_round hd.out hb12 HQN.out hB hf ha
          have HFR := Lib.hid hfr
          clear hfr hB hf ha fl hk12 hb12
          go_region
          all_goals
            go_wp2
            go_roundw
            case rel =>
              refine ⟨j + 1, by omega, by go_num, Lib.hid ?_, Lib.hid ?_⟩
              · exact HFR.out.1.below ((Below.refl _ _).drew)
              · exact hst.out.on (HFR.out.2.trans (Touch.of_below ((Below.refl _ _).drew))) hL HKA.out HLA.out
            case measure => simp [intOf]; omega
    · obtain rfl : j = k.looseL.length := by omega
      have HFU := Lib.hid (RFuse_ok hd.out (-1) (by omega))
      go_wp2_with (go_at_call 55; go_must (refine HFU.out.mono ?_; rintro e w2 ⟨⟨v, rfl⟩, ho, hb⟩; have HO := Lib.hid ho; have HB := Lib.hid hb; clear ho hb))
      go_end0
      refine ⟨⟨_, rfl⟩, ?_, hst.out.touch.trans (HB.out.mono fun _ _ h => .inl h)⟩
      exact OnRef.alike HO.out (fall_end HLEN.out HLL.out)
end
end Go.Proofs.YtaldjmhikebecaaGreat
