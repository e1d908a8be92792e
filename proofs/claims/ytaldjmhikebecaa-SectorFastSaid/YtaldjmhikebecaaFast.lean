/- SectorFast: its walk: what is fast behind a barrier stays behind any crash. -/
import Derived.Test.YtaldjmhikebecaaFastW
import Derived.Test.YtaldjmhikebecaaMix
import Derived.Deep.CutBlock
namespace Go.Proofs.Ytaldjmhikebecaa
open Go Go.RowKit
set_option maxRecDepth 100000
set_option linter.unusedVariables false
attribute [local go_sem] Oper.semAt_some
theorem mixed_len (w : World) (A1 A2 A3 : Option Addr) (c1 c2 c3 : Nat) (x o b : List UInt8) (h1 : Bs w A1 x.length c1 x) (h2 : Bs w A2 o.length c2 o) (h3 : Bs w A3 b.length c3 b) (ho : o.length = x.length) (hb : b.length = x.length) (n0 : Nat) (hn0 : n0 ≤ x.length) (ht : x.take n0 = b.take n0) (hd : x.drop n0 = o.drop n0) :
    Calls Try.prog 30 #[.slice A1 x.length c1, .slice A2 o.length c2, .slice A3 b.length c3] w fun e w' => e = .returned (.bool true) ∧ Below w.heap.size w w' := by
  rw [ho] at h2 ⊢
  rw [hb] at h3 ⊢
  exact mixed_ok w A1 A2 A3 x.length c1 c2 c3 x o b h1 h2 h3 n0 hn0 ht hd
/-- The law, one sector. -/
theorem fast_law {k1 k2 : Dsk} {keep : List Bool} {torn cut : Int} (hs : SameFast k1 k2) (hn1 : ∀ i, i < k1.n → k1.loose i = none) (hlen : k2.fast.length = k2.n * k2.size) (hl : ∀ i, i < k2.n → ∀ l, k2.loose i = some l → l.length = k2.size) (i : Nat) (hi : i < k1.n) :
    (k2.loose i = none → (k2.crash keep torn cut).rdL i = k1.rdL i ∧ (k2.crash keep torn cut).rdE i = k1.rdE i) ∧
    (∀ kk : Nat, k2.looseL[kk]? = some i → ((k2.crash keep torn cut).rdL i = k2.rdL i ∧ (k2.crash keep torn cut).rdE i = k2.rdE i) ∨ ((k2.crash keep torn cut).rdL i = k1.rdL i ∧ (k2.crash keep torn cut).rdE i = k1.rdE i) ∨
      ((kk : Int) = torn ∧ (k2.crash keep torn cut).rdE i = 0 ∧ k1.rdE i = 0 ∧ k2.rdE i = 0 ∧ ∃ n0, (k1.rdL i).length = ((k2.crash keep torn cut).rdL i).length ∧ (k2.rdL i).length = ((k2.crash keep torn cut).rdL i).length ∧ n0 ≤ ((k2.crash keep torn cut).rdL i).length ∧ ((k2.crash keep torn cut).rdL i).take n0 = (k2.rdL i).take n0 ∧ ((k2.crash keep torn cut).rdL i).drop n0 = (k1.rdL i).drop n0)) := by
  have hi2 : i < k2.n := by rw [hs.n]; exact hi
  have s1 : k1.sec i = if k2.bad i then none else some (k2.at_ i) := by
    unfold Dsk.sec
    rw [hn1 i hi, hs.bad, hs.at_]
  refine ⟨fun hlo => ?_, fun kk hkk => ?_⟩
  · have h3 := crash_still (keep := keep) (torn := torn) (cut := cut) hlen hl hi2 hlo
    have h2 : k2.sec i = k1.sec i := by
      rw [s1]
      unfold Dsk.sec
      rw [hlo]
    unfold Dsk.rdL Dsk.rdE
    rw [h3, h2]
    exact ⟨rfl, rfl⟩
  · obtain ⟨b, hlo⟩ := Option.isSome_iff_exists.1 (mem_looseL.1 (List.mem_of_getElem? hkk)).2
    have h2 : k2.sec i = some b := by unfold Dsk.sec; rw [hlo]
    have hll := hl i hi2 b hlo
    rcases crash_loose (keep := keep) (torn := torn) (cut := cut) hlen hl hi2 hkk hlo with h | h | ⟨ht, hb, x, n0, hx, hn0, hxl, htk, hdr⟩
    · left
      unfold Dsk.rdL Dsk.rdE
      rw [h, h2]
      exact ⟨rfl, rfl⟩
    · right; left
      unfold Dsk.rdL Dsk.rdE
      rw [h, s1]
      exact ⟨rfl, rfl⟩
    · right; right
      rw [hb] at s1
      have s1' : k1.sec i = some (k2.at_ i) := s1
      have hal := at_len hlen hi2
      unfold Dsk.rdL Dsk.rdE
      rw [hx, s1', h2]
      refine ⟨ht, rfl, rfl, rfl, n0, ?_, ?_, hn0, htk, hdr⟩
      · show (k2.at_ i).length = x.length
        omega
      · show b.length = x.length
        omega
/-- A call's two cells that Write reads, wherever one looks. -/
theorem op_in {w wr : World} {A : Option Addr} {n c j : Nat} (h : OpsAt w A n c) (hj : j < n) (hb : Below w.heap.size w wr) : ∃ ad, A = some ad ∧ ∃ p q o, ad.add (j * 7) = ⟨p, q, none⟩ ∧ OpIn wr p q o ∧ OpAt w o ∧ Hid (∀ W, Below w.heap.size w W → W.cell? ⟨p, q + 1, none⟩ = some (.int .i64 o.i) ∧ W.cell? ⟨p, q + 3, none⟩ = some (.slice o.BA o.bn o.bc)) := by
  obtain ⟨ad, e, o, h1, h2⟩ := h.at_ j hj
  have g : ∀ W, Below w.heap.size w W → ∀ i v, o.cells[i]? = some v → W.cell? ((ad.add (j * 7)).add i) = some v := fun W hb i v hv => cell_keep hb (h1 i v hv)
  have e0 := spot_none (g wr hb 0 _ rfl)
  rw [show (ad.add (j * 7)).add 0 = ad.add (j * 7) from rfl] at e0
  refine ⟨ad, e, _, _, o, e0, ?_, h2, Lib.hid fun W hW => ?_⟩
  · rw [e0] at g
    exact ⟨g wr hb 0 _ rfl, g wr hb 1 _ rfl, g wr hb 2 _ rfl, g wr hb 3 _ rfl, g wr hb 4 _ rfl, g wr hb 5 _ rfl, g wr hb 6 _ rfl⟩
  · rw [e0] at g
    exact ⟨g W hW 1 _ rfl, g W hW 3 _ rfl⟩
def ReadsT (w : World) (d i : Nat) (l : List UInt8) (z : Int) : Prop := ∀ w1, Below w.heap.size w w1 → Calls Try.prog 22 #[.pointer (some ⟨d, 0, none⟩), .int .i64 (i : Int), .int .i64 1] w1 fun e w2 => ∃ A c, e = .returned (.tuple #[.slice A l.length c, .int .i64 z]) ∧ Bs w2 A l.length c l ∧ Below w1.heap.size w1 w2
theorem loose_at {k : Dsk} {kk i : Nat} (h1 : ∀ j, j < kk → k.looseL.getD j 0 < i) (h2 : ∀ j, kk ≤ j → j < k.looseL.length → i ≤ k.looseL.getD j 0) (hne : kk < k.looseL.length → k.looseL.getD kk 0 ≠ i) (hi : i < k.n) : k.loose i = none := by
  cases hlo : k.loose i with
  | none => rfl
  | some l =>
    exfalso
    have hm : i ∈ k.looseL := mem_looseL.2 ⟨hi, by rw [hlo]; rfl⟩
    obtain ⟨j, hj, e⟩ := List.getElem_of_mem hm
    have hg : k.looseL.getD j 0 = i := by rw [List.getD_eq_getElem?_getD, List.getElem?_eq_getElem hj]; exact e
    rcases Nat.lt_or_ge j kk with h | h
    · have := h1 j h
      omega
    · have hkk : kk < k.looseL.length := by omega
      have h3 := h2 kk (Nat.le_refl _) hkk
      rcases Nat.eq_or_lt_of_le h with h4 | h4
      · subst h4; exact hne hj hg
      · have hp := List.pairwise_iff_getElem.1 (pair_looseL k) kk j hkk hj h4
        have hk : k.looseL.getD kk 0 = k.looseL[kk] := by rw [List.getD_eq_getElem?_getD, List.getElem?_eq_getElem hkk]; rfl
        omega
theorem loose_skip {k : Dsk} {kk i : Nat} (hnl : k.loose i = none) (h2 : ∀ j, kk ≤ j → j < k.looseL.length → i ≤ k.looseL.getD j 0) : ∀ j, kk ≤ j → j < k.looseL.length → i + 1 ≤ k.looseL.getD j 0 := by
  intro j h1 h3
  have h4 := h2 j h1 h3
  rcases Nat.eq_or_lt_of_le h4 with h5 | h5
  · have hg : k.looseL.getD j 0 = k.looseL[j] := by rw [List.getD_eq_getElem?_getD, List.getElem?_eq_getElem h3]; rfl
    have := (mem_looseL.1 (List.getElem_mem h3)).2
    rw [← hg, ← h5, hnl] at this
    cases this
  · exact h5
theorem loose_next {k : Dsk} {kk i : Nat} (h : k.looseL[kk]? = some i) : ∀ j, kk + 1 ≤ j → j < k.looseL.length → i + 1 ≤ k.looseL.getD j 0 := by
  intro j h1 h2
  obtain ⟨h3, e⟩ := List.getElem?_eq_some_iff.1 h
  have hp := List.pairwise_iff_getElem.1 (pair_looseL k) kk j h3 h2 (by omega)
  have hk : k.looseL.getD j 0 = k.looseL[j] := by rw [List.getD_eq_getElem?_getD, List.getElem?_eq_getElem h2]; rfl
  omega
set_option maxHeartbeats 8000000 in
theorem SectorFast_walk (w : World) (s : Int) (hs : I64 s) (z : Int) (hz : I64 z) (A : Option Addr) (n c : Nat) (ho : OpsAt w A n c) (A2 : Option Addr) (n2 c2 : Nat) (ho2 : OpsAt w A2 n2 c2) (KA : Option Addr) (mk kc : Nat) (keep : List Bool) (torn cut : Int) (hK : Rd w 1 KA mk kc (keep.map Value.bool)) (htorn : I64 torn) (hcut : I64 cut) :
    Calls Try.prog 8 #[.int .i64 s, .int .i64 z, .slice A n c, .slice A2 n2 c2, .agg #[.slice KA mk kc, .int .i64 torn, .int .i64 cut]] w (RetTrue w) := by
  have hb00 : Below w.heap.size w (w.alloc (.cells #[.slice KA mk kc, .int .i64 torn, .int .i64 cut] 44)) := (Below.refl _ w).alloc (Nat.le_refl _) _
  have hq0 := blk_new w (.cells #[.slice KA mk kc, .int .i64 torn, .int .i64 cut] 44)
  have HO := Lib.hid (ho.below hb00)
  have HO2 := Lib.hid (ho2.below hb00)
  have HK := Lib.hid (hK.below hb00)
  have KC := Lib.hid (fun (W : World) (hb : Below (w.alloc (.cells #[.slice KA mk kc, .int .i64 torn, .int .i64 cut] 44)).heap.size (w.alloc (.cells #[.slice KA mk kc, .int .i64 torn, .int .i64 cut] 44)) W) => (⟨cell_keep hb (blk_cell hq0 0), cell_keep hb (blk_cell hq0 1), cell_keep hb (blk_cell hq0 2)⟩ : W.cell? ⟨w.heap.size, 0, none⟩ = some (.slice KA mk kc) ∧ W.cell? ⟨w.heap.size, 1, none⟩ = some (.int .i64 torn) ∧ W.cell? ⟨w.heap.size, 2, none⟩ = some (.int .i64 cut)))
  have HB00 := Lib.hid hb00
  have hn : n ≤ 9223372036854775807 := by have h1 := ho.le; have h2 := ho.max; unfold maxLen at h2; omega
  have hn2 : n2 ≤ 9223372036854775807 := by have h1 := ho2.le; have h2 := ho2.max; unfold maxLen at h2; omega
  clear ho ho2 hK htorn hcut hb00 hq0
  by_cases hg : (1 ≤ s ∧ s ≤ 65536) ∧ 1 ≤ z ∧ z ≤ 8192
  · have HGS := Lib.hid hg.1
    have HGZ := Lib.hid hg.2
    clear hg hs hz
    go_enter Try.func8, Try.ntmps8
    go_upto_region 1 with fail
    generalize (w.alloc (.cells #[.slice KA mk kc, .int .i64 torn, .int .i64 cut] 44)) = W0 at HO HO2 HK KC HB00 ⊢
    go_upto_block 0 with (first
      | (go_at_call 19; go_must (refine (awakeS_true _).mono ?_; rintro e w1 ⟨rfl, hb1⟩; have HB1 := Lib.hid hb1; have HS1 := Lib.hid hb1.size; clear hb1))
      | (go_at_call 20; go_must (refine (begin_good s z _ HGS.out HGZ.out).mono ?_; rintro e w2 ⟨b, k, rfl, hd, _, hb2⟩; have HR2 := Lib.hid (runs_begin (w := W0) hd); have HB2 := Lib.hid (below_trans2 HB1.out hb2); clear hb2 hd)))
    go_cut [14] from 44 to 60 (fun _ wx => ∃ j : Nat, j ≤ 150 ∧ Hid (RunsAt wx w1.heap.size b j) ∧ Hid (Below W0.heap.size W0 wx))
    case first =>
      go_wp2_with fail
      go_loopw [14] (fun i' wr => ∃ j : Nat, j ≤ n ∧ j ≤ 150 ∧ i' = .int .i64 (j : Int) ∧ Hid (RunsAt wr w1.heap.size b j) ∧ Hid (Below W0.heap.size W0 wr)) (fun i' _ => 150 - (intOf i').toNat)
      case atStart => exact ⟨0, Nat.zero_le _, by omega, rfl, HR2, HB2⟩
      case round =>
        obtain ⟨j, hj, h150, rfl, hr, hb⟩ := hrel
        by_cases hlt : j < n ∧ j < 150
        · obtain ⟨h1, h2⟩ := hlt
          obtain ⟨ad, rfl, p, q, o, hpq, hoi, hoa⟩ := HO.out.op h1 hb.out
          obtain ⟨o0, o1, o2, o3, o4, o5, o6⟩ := hoi
          have HST := Lib.hid (runs_step hr.out HS1.out hb.out hoa (by omega))
          clear hoa hr
          go_wp2_with (go_at_call 21; go_must (refine HST.out.mono ?_; rintro e w3 ⟨rfl, hr3, hb3, _⟩; have HR3 := Lib.hid hr3; have HB3 := Lib.hid hb3; clear hr3 hb3))
          go_roundw
          case rel => exact ⟨j + 1, by omega, by omega, by go_num, HR3, HB3⟩
          case measure => simp [intOf]; omega
        · rcases (by omega : j = n ∨ (j < n ∧ j = 150)) with hjn | ⟨h1, hjn⟩
          all_goals
            subst hjn
            go_wp2_with fail
            go_meet
            exact ⟨_, h150, hr, hb⟩
    case rest =>
      obtain ⟨j, h150, hr, hb⟩ := hcut
      obtain ⟨k', c', hdu, hc'⟩ := hr.out
      have HFS := Lib.hid (fast_start hdu)
      have HLOW := Lib.hid (fun i (hi : b.P i) => hdu.low i (.inl hi))
      have HC' := Lib.hid (show c' ≤ 9830550 by omega)
      have HSB := Lib.hid (fun (W W' : World) (h1 : Below W0.heap.size W0 W) (t : Touch b.P W W') => Touch.below h1 t (Nat.le_refl _) (fun i hi => Nat.le_trans HS1.out (HLOW.out i hi)))
      clear hdu hr hc' HR2 HB2 HB1 HGS HGZ
      go_upto_block 2 with (first
        | (go_at_call 24; go_must (refine HFS.out.mono ?_; rintro e wf ⟨rfl, hf⟩; have HF := Lib.hid hf; clear hf))
        | (go_at_call 25; go_must (refine HF.out.mono ?_; rintro e wb ⟨rfl, hba⟩; have HBA := Lib.hid hba; clear hba))
        | (go_at_call 26; go_must (refine HBA.out.mono ?_; rintro e wo ⟨dO, k1, k2, rfl, hfs, ht⟩; have HFO := Lib.hid hfs; have HBO := Lib.hid (HSB.out _ _ hb.out ht); clear hfs ht)))
      go_cut [16] from 67 to 94 (fun _ wx => ∃ k2 c', Hid (FastS wx w1.heap.size b dO k1 k2 c') ∧ Hid (Below W0.heap.size W0 wx))
      case first =>
        go_wp2_with fail
        go_loopw [16] (fun i' wq => ∃ q : Nat, q ≤ n2 ∧ q ≤ 150 ∧ i' = .int .i64 (q : Int) ∧ Hid (∃ k2 c', FastS wq w1.heap.size b dO k1 k2 c' ∧ c' ≤ 9830550 + q * 65537) ∧ Hid (Below W0.heap.size W0 wq)) (fun i' _ => 150 - (intOf i').toNat)
        case atStart => exact ⟨0, Nat.zero_le _, by omega, rfl, Lib.hid ⟨_, _, HFO.out, by have := HC'.out; omega⟩, HBO⟩
        case round =>
            obtain ⟨q, hq, hq150, rfl, hrq, hbq⟩ := hrel
            by_cases hlt : q < n2 ∧ q < 150
            · obtain ⟨h1, h2⟩ := hlt
              obtain ⟨ad, rfl, p, q0, o, hpq, hoi, hoa, HPQ⟩ := op_in HO2.out h1 hbq.out
              obtain ⟨o0, o1, o2, o3, o4, o5, o6⟩ := hoi
              obtain ⟨k2', cc, hfs, hcc⟩ := hrq.out
              have hlt2 := hoa.lt
              have HPP := Lib.hid (fun (W : World) (hb : Below W0.heap.size W0 W) => HPQ.out W hb)
              by_cases hkd : o.kd = 2
              · rw [hkd] at o0
                have HWR := Lib.hid (fast_write (hfs.below (Below.refl _ wr).drew) o.BA o.bn o.bc o.b ((hoa.below hbq.out).bs.drew) (fun h0 ad e => Nat.lt_of_lt_of_le (hlt2.1 h0 ad e) HS1.out) o.i hoa.i (by omega))
                have HQ0 := Lib.hid hcc
                clear hfs hoa hrq hlt2 hcc o2 o4 o5 o6 hkd
                go_wp2
                have hS0 : wr.drew.cell? ⟨p, q0 + 1, none⟩ = some (.int .i64 o.i) ∧ wr.drew.cell? ⟨p, q0 + 3, none⟩ = some (.slice o.BA o.bn o.bc) := ⟨o1, o3⟩
                go_region_held3 (fun w' => w'.cell? ⟨p, q0 + 1, none⟩ = some (.int .i64 o.i) ∧ w'.cell? ⟨p, q0 + 3, none⟩ = some (.slice o.BA o.bn o.bc)) (assumption)
                  (first
                    | (go_at_call 27; refine HWR.out.mono ?_; rintro e w5 ⟨zz, rfl, hfs5, t5⟩; have HF5 := Lib.hid hfs5; have HB5 := Lib.hid (HSB.out _ _ hbq.out ((Touch.of_below ((Below.refl _ wr).drew)).trans t5)); have hS5 := HPP.out _ HB5.out; clear hfs5 t5))
                go_wp2
                go_roundw
                case rel =>
                  obtain ⟨k5, c5, hf5, hc5⟩ := HF5.out
                  exact ⟨q + 1, by omega, by omega, by go_num, Lib.hid ⟨k5, c5, hf5, by have := HQ0.out; omega⟩, HB5⟩
                case measure => simp [intOf]; omega
              · have hkd' : (o.kd == 2) = false := by rw [beq_eq_false_iff_ne]; exact hkd
                have HQ0 := Lib.hid (show ∃ k2 c', FastS wr w1.heap.size b dO k1 k2 c' ∧ c' ≤ 9830550 + (q + 1) * 65537 from ⟨k2', cc, hfs, Nat.le_trans hcc (Nat.add_le_add_left (Nat.mul_le_mul_right _ (Nat.le_succ q)) _)⟩)
                clear hfs hoa hrq hlt2 hcc hkd
                go_wp2
                go_roundw
                case rel => exact ⟨q + 1, by omega, by omega, by go_num, HQ0, hbq⟩
                case measure => simp [intOf]; omega
            · obtain ⟨k2', cc, hfs, hcc⟩ := hrq.out
              have HFQ := Lib.hid hfs
              clear hrq hfs hcc
              rcases (by omega : q = n2 ∨ (q < n2 ∧ q = 150)) with hqn | ⟨h2, hqn⟩
              all_goals
                subst hqn
                go_wp2_with fail
                go_meet
                exact ⟨_, _, HFQ, hbq⟩
      case rest =>
        obtain ⟨k2', cc, HFQ, hbq⟩ := hcut
        have tok1 : True := trivial
        go_wp2_with (first
          | (go_at_call 28; have _t := tok1; clear tok1; go_must (clear _t; refine (Loose_ok HFQ.out.dsk).mono ?_; rintro e wl ⟨LA, lc, rfl, hol, hbl⟩; have HOL := Lib.hid hol; have HBL := Lib.hid (below_trans2 hbq.out hbl); have HFE := Lib.hid (fast_end (HFQ.out.below hbl) KA mk kc keep torn cut (HK.out.below (below_trans2 hbq.out hbl))); clear hol hbl))
          | (go_at_call 26; go_must (refine HFE.out.mono ?_; rintro e wm ⟨dM, rfl, hbm, hcr⟩; have HCR := Lib.hid hcr; have HBM := Lib.hid (below_trans2 HBL.out hbm); obtain ⟨v0, v1, v2⟩ := KC.out wm HBM.out; clear hbm hcr))
          | (go_at_call 29; go_must (refine HCR.out.mono ?_; rintro e wc ⟨rfl, tc, hlo⟩; have HLC := Lib.hid hlo; clear tc hlo v0 v1 v2))
          | (go_at_call 28; go_must (refine HLC.out.mono ?_; rintro e wX ⟨AX, cX, rfl, tX, hX⟩; have HTX0 := Lib.hid tX; have HX := Lib.hid hX; clear tX hX)))
        have HRL := Lib.hid ((Rd.of_own HOL.out).touch HTX0.out fun h0 ad e hp => by
          have h5 := (own_base HOL.out ad.block (by rw [e]; rfl)).1
          have h6 := HFQ.out.dsk.lts
          rcases hp with hp | hp | hp | hp <;> omega)
        have HBX0 := Lib.hid (HSB.out _ _ HBL.out HTX0.out)
        have HLAW := Lib.hid (fun i hi => fast_law (keep := keep) (torn := torn) (cut := cut) HFQ.out.same HFQ.out.nolo HFQ.out.dsk.len HFQ.out.dsk.loose_len i hi)
        have hk1n : k1.n ≤ 65536 := by have h5 := HFQ.out.dsk.n2; have h6 := HFQ.out.same.n; omega
        have hlen := looseL_length k2'
        have HN12 := Lib.hid HFQ.out.same.n
        have hlen2 : k2'.looseL.length ≤ 65536 := by have h6 := HN12.out; omega
        clear hlen HFE HCR HLC HOL HFO HFS HF HBA HBO HBL HBM
        go_loopw [19, 20, 21] (fun u v i' wq => ∃ i kk t : Nat, i ≤ k1.n ∧ u = .int .i64 (kk : Int) ∧ v = .int .i64 (t : Int) ∧ i' = .int .i64 (i : Int) ∧ kk ≤ k2'.looseL.length ∧ t ≤ 1 ∧ Hid (∀ j, j < kk → k2'.looseL.getD j 0 < i) ∧ Hid (∀ j, kk ≤ j → j < k2'.looseL.length → i ≤ k2'.looseL.getD j 0) ∧ Hid (t = 0 ∨ torn < (kk : Int)) ∧ Hid (Below wX.heap.size wX wq)) (fun _ _ i' _ => k1.n - (intOf i').toNat)
        case atStart => exact ⟨0, 0, 0, Nat.zero_le _, rfl, rfl, rfl, Nat.zero_le _, by omega, Lib.hid (fun j hj => absurd hj (Nat.not_lt_zero _)), Lib.hid (fun j _ _ => Nat.zero_le _), Lib.hid (.inl rfl), Lib.hid (Below.refl _ _)⟩
        case round =>
          obtain ⟨i, kk, t, hi, rfl, rfl, rfl, hkk, ht, hp1, hp2, hp3, HB3⟩ := hrel
          have r3 : wr.cell? ⟨b.r, 1, none⟩ = some (.slice (some ⟨b.L, 0, none⟩) k1.n b.cap) := cell_keep HB3.out HX.out.ref
          by_cases hlt : i < k1.n
          · have hro := HX.out.ro i hlt
            have hrm := HX.out.rm i hlt
            have hrx := HX.out.rx i hlt
            have hlaw := HLAW.out i hlt
            unfold Reads at hro hrm hrx
            generalize (k2'.crash keep torn cut).rdL i = lx at hrx hlaw
            generalize (k2'.crash keep torn cut).rdE i = zx at hrx hlaw
            generalize k1.rdL i = lo at hro hlaw
            generalize k1.rdE i = zo at hro hlaw
            generalize k2'.rdL i = lm at hrm hlaw
            generalize k2'.rdE i = zm at hrm hlaw
            have tok1 : True := trivial
            have tok2 : True := trivial
            by_cases hin : kk < k2'.looseL.length ∧ k2'.looseL.getD kk 0 = i
            · obtain ⟨hk1, hk2⟩ := hin
              have hkx : k2'.looseL[kk]? = some i := by rw [List.getElem?_eq_getElem hk1, ← hk2, List.getD_eq_getElem?_getD, List.getElem?_eq_getElem hk1]; rfl
              obtain ⟨adL, rfl, hcell⟩ := HRL.out.at_ hk1
              have hcell' : wX.cell? (adL.add kk) = some (.int .i64 (i : Int)) := by
                rw [hcell]
                have h2 := (List.getElem?_eq_some_iff.1 hkx).2
                simp only [List.getElem_map, ints, h2]
              have HCQ := Lib.hid (fun (W : World) (hb : Below wX.heap.size wX W) => cell_keep hb hcell')
              have P1 := Lib.hid (show ∀ j, j < kk + 1 → k2'.looseL.getD j 0 < i + 1 from fun j hj => by
                rcases Nat.lt_or_ge j kk with h | h
                · have := hp1.out j h; omega
                · obtain rfl : j = kk := by omega
                  omega)
              have P2 := Lib.hid (loose_next hkx)
              have hl2 := hlaw.2 kk hkx
              clear hcell hcell' hkx hlaw hk2
              by_cases hA : lx = lm ∧ zx = zm
              · obtain ⟨rfl, rfl⟩ := hA
                obtain ⟨sa, hsa⟩ : ∃ sa, sa = strB lo := ⟨_, rfl⟩
                have HTA := Lib.hid hsa
                obtain ⟨sb, hsb⟩ : ∃ sb, sb = strB lx := ⟨_, rfl⟩
                have HTB := Lib.hid hsb
                have HTX := HTB
                clear hsa hsb
                have HRO := Lib.hid hro
                have HRM := Lib.hid hrm
                have HRX := Lib.hid hrx
                clear hro hrm hrx
                go_wp2_with (first
                  | (go_at_call 22; have _t := tok1; clear tok1; go_must (clear _t; refine (HRO.out _ HB3.out).mono ?_; rintro e wa ⟨Aa, ca, rfl, hsa, hba⟩; have HSA := Lib.hid hsa; have HBA := Lib.hid (bthen HB3.out hba); clear hsa hba))
                  | (go_at_call 22; have _t := tok2; clear tok2; go_must (clear _t; refine (HRM.out _ HBA.out).mono ?_; rintro e wb ⟨Ab, cb, rfl, hsb, hbb⟩; have HSB := Lib.hid hsb; have HBB := Lib.hid (bthen HBA.out hbb); have HSA1 := Lib.hid (HSA.out.below hbb); clear hsb hbb))
                  | (go_at_call 22; go_must (refine (HRX.out _ HBB.out).mono ?_; rintro e wd ⟨Ax, cx, rfl, hsx, hbx⟩; have HSX := Lib.hid hsx; have HBX := Lib.hid (bthen HBB.out hbx); have HSA2 := Lib.hid (HSA1.out.below hbx); have HSB2 := Lib.hid (HSB.out.below hbx); have ea := run_string_bytes (P := Try.prog) 26 9 5 Try.underlying26 Try.underlying9 Try.underlying5 HSA2.out; have eb := run_string_bytes (P := Try.prog) 26 9 5 Try.underlying26 Try.underlying9 Try.underlying5 HSB2.out; have ex := run_string_bytes (P := Try.prog) 26 9 5 Try.underlying26 Try.underlying9 Try.underlying5 hsx; rw [← HTA.out] at ea; rw [← HTB.out] at eb; rw [← HTX.out] at ex; have hcl := HCQ.out _ HBX.out; clear hsx hbx)))
                go_roundw
                case rel => exact ⟨i + 1, kk + 1, t, by omega, by go_num, rfl, by go_num, by omega, ht, P1, P2, Lib.hid (by have := hp3.out; omega), HBX⟩
                case measure => simp [intOf]; omega
              · rcases hl2 with hl3 | ⟨rfl, rfl⟩ | ⟨htk, hzx, hzo, hzm, n0, hl3, hl4, hn0, htake, hdrop⟩
                · exact absurd hl3 hA
                · by_cases hzz : zx = zm
                  · subst hzz
                    have hll : ¬ lx = lm := fun e => hA ⟨e, rfl⟩
                    have hss : ¬ strB lx = strB lm := fun e => hll (strB_inj e)
                    obtain ⟨sa, hsa⟩ : ∃ sa, sa = strB lx := ⟨_, rfl⟩
                    have HTA := Lib.hid hsa
                    obtain ⟨sb, hsb⟩ : ∃ sb, sb = strB lm := ⟨_, rfl⟩
                    have HTB := Lib.hid hsb
                    have HTX := HTA
                    have hab : (sa.toList == sb.toList) = false := bytes_ne (by rw [hsa, hsb]; first | exact hss | exact hsm)
                    clear hsa hsb
                    have HRO := Lib.hid hro
                    have HRM := Lib.hid hrm
                    have HRX := Lib.hid hrx
                    clear hro hrm hrx
                    go_wp2_with (first
                      | (go_at_call 22; have _t := tok1; clear tok1; go_must (clear _t; refine (HRO.out _ HB3.out).mono ?_; rintro e wa ⟨Aa, ca, rfl, hsa, hba⟩; have HSA := Lib.hid hsa; have HBA := Lib.hid (bthen HB3.out hba); clear hsa hba))
                      | (go_at_call 22; have _t := tok2; clear tok2; go_must (clear _t; refine (HRM.out _ HBA.out).mono ?_; rintro e wb ⟨Ab, cb, rfl, hsb, hbb⟩; have HSB := Lib.hid hsb; have HBB := Lib.hid (bthen HBA.out hbb); have HSA1 := Lib.hid (HSA.out.below hbb); clear hsb hbb))
                      | (go_at_call 22; go_must (refine (HRX.out _ HBB.out).mono ?_; rintro e wd ⟨Ax, cx, rfl, hsx, hbx⟩; have HSX := Lib.hid hsx; have HBX := Lib.hid (bthen HBB.out hbx); have HSA2 := Lib.hid (HSA1.out.below hbx); have HSB2 := Lib.hid (HSB.out.below hbx); have ea := run_string_bytes (P := Try.prog) 26 9 5 Try.underlying26 Try.underlying9 Try.underlying5 HSA2.out; have eb := run_string_bytes (P := Try.prog) 26 9 5 Try.underlying26 Try.underlying9 Try.underlying5 HSB2.out; have ex := run_string_bytes (P := Try.prog) 26 9 5 Try.underlying26 Try.underlying9 Try.underlying5 hsx; rw [← HTA.out] at ea; rw [← HTB.out] at eb; rw [← HTX.out] at ex; have hcl := HCQ.out _ HBX.out; clear hsx hbx)))
                    go_roundw
                    case rel => exact ⟨i + 1, kk + 1, t, by omega, by go_num, rfl, by go_num, by omega, ht, P1, P2, Lib.hid (by have := hp3.out; omega), HBX⟩
                    case measure => simp [intOf]; omega
                  · have hzb : (zx == zm) = false := by rw [beq_eq_false_iff_ne]; exact hzz
                    clear hzz hA
                    obtain ⟨sa, hsa⟩ : ∃ sa, sa = strB lx := ⟨_, rfl⟩
                    have HTA := Lib.hid hsa
                    obtain ⟨sb, hsb⟩ : ∃ sb, sb = strB lm := ⟨_, rfl⟩
                    have HTB := Lib.hid hsb
                    have HTX := HTA
                    clear hsa hsb
                    have HRO := Lib.hid hro
                    have HRM := Lib.hid hrm
                    have HRX := Lib.hid hrx
                    clear hro hrm hrx
                    go_wp2_with (first
                      | (go_at_call 22; have _t := tok1; clear tok1; go_must (clear _t; refine (HRO.out _ HB3.out).mono ?_; rintro e wa ⟨Aa, ca, rfl, hsa, hba⟩; have HSA := Lib.hid hsa; have HBA := Lib.hid (bthen HB3.out hba); clear hsa hba))
                      | (go_at_call 22; have _t := tok2; clear tok2; go_must (clear _t; refine (HRM.out _ HBA.out).mono ?_; rintro e wb ⟨Ab, cb, rfl, hsb, hbb⟩; have HSB := Lib.hid hsb; have HBB := Lib.hid (bthen HBA.out hbb); have HSA1 := Lib.hid (HSA.out.below hbb); clear hsb hbb))
                      | (go_at_call 22; go_must (refine (HRX.out _ HBB.out).mono ?_; rintro e wd ⟨Ax, cx, rfl, hsx, hbx⟩; have HSX := Lib.hid hsx; have HBX := Lib.hid (bthen HBB.out hbx); have HSA2 := Lib.hid (HSA1.out.below hbx); have HSB2 := Lib.hid (HSB.out.below hbx); have ea := run_string_bytes (P := Try.prog) 26 9 5 Try.underlying26 Try.underlying9 Try.underlying5 HSA2.out; have eb := run_string_bytes (P := Try.prog) 26 9 5 Try.underlying26 Try.underlying9 Try.underlying5 HSB2.out; have ex := run_string_bytes (P := Try.prog) 26 9 5 Try.underlying26 Try.underlying9 Try.underlying5 hsx; rw [← HTA.out] at ea; rw [← HTB.out] at eb; rw [← HTX.out] at ex; have hcl := HCQ.out _ HBX.out; clear hsx hbx)))
                    go_roundw
                    case rel => exact ⟨i + 1, kk + 1, t, by omega, by go_num, rfl, by go_num, by omega, ht, P1, P2, Lib.hid (by have := hp3.out; omega), HBX⟩
                    case measure => simp [intOf]; omega
                · have ht0 : t = 0 := by have := hp3.out; omega
                  subst hzx hzo hzm ht0
                  have hsm : ¬ strB lx = strB lm := fun e => hA ⟨strB_inj e, rfl⟩
                  have HTK := Lib.hid htk
                  have HL := Lib.hid (And.intro hl3 (And.intro hl4 (And.intro hn0 (And.intro htake hdrop))))
                  clear hl3 hl4 hn0 htake hdrop htk hA
                  by_cases hso : lx = lo
                  · subst hso
                    obtain ⟨sa, hsa⟩ : ∃ sa, sa = strB lx := ⟨_, rfl⟩
                    have HTA := Lib.hid hsa
                    obtain ⟨sb, hsb⟩ : ∃ sb, sb = strB lm := ⟨_, rfl⟩
                    have HTB := Lib.hid hsb
                    have HTX := HTA
                    have hab : (sa.toList == sb.toList) = false := bytes_ne (by rw [hsa, hsb]; first | exact hss | exact hsm)
                    clear hsa hsb
                    have HRO := Lib.hid hro
                    have HRM := Lib.hid hrm
                    have HRX := Lib.hid hrx
                    clear hro hrm hrx
                    go_wp2_with (first
                      | (go_at_call 22; have _t := tok1; clear tok1; go_must (clear _t; refine (HRO.out _ HB3.out).mono ?_; rintro e wa ⟨Aa, ca, rfl, hsa, hba⟩; have HSA := Lib.hid hsa; have HBA := Lib.hid (bthen HB3.out hba); clear hsa hba))
                      | (go_at_call 22; have _t := tok2; clear tok2; go_must (clear _t; refine (HRM.out _ HBA.out).mono ?_; rintro e wb ⟨Ab, cb, rfl, hsb, hbb⟩; have HSB := Lib.hid hsb; have HBB := Lib.hid (bthen HBA.out hbb); have HSA1 := Lib.hid (HSA.out.below hbb); clear hsb hbb))
                      | (go_at_call 22; go_must (refine (HRX.out _ HBB.out).mono ?_; rintro e wd ⟨Ax, cx, rfl, hsx, hbx⟩; have HSX := Lib.hid hsx; have HBX := Lib.hid (bthen HBB.out hbx); have HSA2 := Lib.hid (HSA1.out.below hbx); have HSB2 := Lib.hid (HSB.out.below hbx); have ea := run_string_bytes (P := Try.prog) 26 9 5 Try.underlying26 Try.underlying9 Try.underlying5 HSA2.out; have eb := run_string_bytes (P := Try.prog) 26 9 5 Try.underlying26 Try.underlying9 Try.underlying5 HSB2.out; have ex := run_string_bytes (P := Try.prog) 26 9 5 Try.underlying26 Try.underlying9 Try.underlying5 hsx; rw [← HTA.out] at ea; rw [← HTB.out] at eb; rw [← HTX.out] at ex; have hcl := HCQ.out _ HBX.out; clear hsx hbx)))
                    go_roundw
                    case rel => exact ⟨i + 1, kk + 1, 0, by omega, by go_num, rfl, by go_num, by omega, by omega, P1, P2, Lib.hid (.inl rfl), HBX⟩
                    case measure => simp [intOf]; omega
                  · have hsx : ¬ strB lx = strB lo := fun e => hso (strB_inj e)
                    clear hso
                    obtain ⟨sa, hsa⟩ : ∃ sa, sa = strB lo := ⟨_, rfl⟩
                    have HTA := Lib.hid hsa
                    obtain ⟨sb, hsb⟩ : ∃ sb, sb = strB lm := ⟨_, rfl⟩
                    have HTB := Lib.hid hsb
                    obtain ⟨sx, hsx__⟩ : ∃ sx, sx = strB lx := ⟨_, rfl⟩
                    have HTX := Lib.hid hsx__
                    have hxb : (sx.toList == sb.toList) = false := bytes_ne (by rw [hsx__, hsb]; exact hsm)
                    have hxa : (sx.toList == sa.toList) = false := bytes_ne (by rw [hsx__, hsa]; exact hsx)
                    clear hsa hsb hsx__
                    have HRO := Lib.hid hro
                    have HRM := Lib.hid hrm
                    have HRX := Lib.hid hrx
                    clear hro hrm hrx
                    go_wp2_with (first
                      | (go_at_call 22; have _t := tok1; clear tok1; go_must (clear _t; refine (HRO.out _ HB3.out).mono ?_; rintro e wa ⟨Aa, ca, rfl, hsa, hba⟩; have HSA := Lib.hid hsa; have HBA := Lib.hid (bthen HB3.out hba); clear hsa hba))
                      | (go_at_call 22; have _t := tok2; clear tok2; go_must (clear _t; refine (HRM.out _ HBA.out).mono ?_; rintro e wb ⟨Ab, cb, rfl, hsb, hbb⟩; have HSB := Lib.hid hsb; have HBB := Lib.hid (bthen HBA.out hbb); have HSA1 := Lib.hid (HSA.out.below hbb); clear hsb hbb))
                      | (go_at_call 22; go_must (refine (HRX.out _ HBB.out).mono ?_; rintro e wd ⟨Ax, cx, rfl, hsx, hbx⟩; have HSX := Lib.hid hsx; have HBX := Lib.hid (bthen HBB.out hbx); have HSA2 := Lib.hid (HSA1.out.below hbx); have HSB2 := Lib.hid (HSB.out.below hbx); have ea := run_string_bytes (P := Try.prog) 26 9 5 Try.underlying26 Try.underlying9 Try.underlying5 HSA2.out; have eb := run_string_bytes (P := Try.prog) 26 9 5 Try.underlying26 Try.underlying9 Try.underlying5 HSB2.out; have ex := run_string_bytes (P := Try.prog) 26 9 5 Try.underlying26 Try.underlying9 Try.underlying5 hsx; rw [← HTA.out] at ea; rw [← HTB.out] at eb; rw [← HTX.out] at ex; have hcl := HCQ.out _ HBX.out; clear hsx hbx))
                      | (go_at_call 30; go_must (refine (mixed_len wd Ax Aa Ab cx ca cb lx lo lm HSX.out HSA2.out HSB2.out HL.out.1 HL.out.2.1 n0 HL.out.2.2.1 HL.out.2.2.2.1 HL.out.2.2.2.2).mono ?_; rintro e wz ⟨rfl, hbz⟩; have HBZ := Lib.hid (bthen HBX.out hbz); clear hbz)))
                    go_roundw
                    case rel => exact ⟨i + 1, kk + 1, 1, by omega, by go_num, by go_num, by go_num, by omega, by omega, P1, P2, Lib.hid (by have := HTK.out; omega), HBZ⟩
                    case measure => simp [intOf]; omega
            · have hnl := loose_at hp1.out hp2.out (fun h e => hin ⟨h, e⟩) (by have h6 := HN12.out; omega)
              obtain ⟨rfl, rfl⟩ := hlaw.1 hnl
              have P1 := Lib.hid (show ∀ j, j < kk → k2'.looseL.getD j 0 < i + 1 from fun j hj => by have := hp1.out j hj; omega)
              have P2 := Lib.hid (loose_skip hnl hp2.out)
              clear hlaw hnl
              by_cases hk1 : kk < k2'.looseL.length
              · have hne : ¬ k2'.looseL.getD kk 0 = i := fun e => hin ⟨hk1, e⟩
                obtain ⟨adL, rfl, hcell⟩ := HRL.out.at_ hk1
                obtain ⟨qk, hqk⟩ : ∃ qk, qk = k2'.looseL.getD kk 0 := ⟨_, rfl⟩
                have hcell' : wX.cell? (adL.add kk) = some (.int .i64 (qk : Int)) := by
                  rw [hcell, hqk]
                  simp only [List.getElem_map, ints, List.getD_eq_getElem?_getD, List.getElem?_eq_getElem hk1, Option.getD_some]
                have HCQ := Lib.hid (fun (W : World) (hb : Below wX.heap.size wX W) => cell_keep hb hcell')
                rw [← hqk] at hne
                have hqi : ((qk : Int) == (i : Int)) = false := by rw [beq_eq_false_iff_ne]; omega
                clear hcell hcell' hqk hin hne
                obtain ⟨sa, hsa⟩ : ∃ sa, sa = strB lx := ⟨_, rfl⟩
                have HTA := Lib.hid hsa
                obtain ⟨sb, hsb⟩ : ∃ sb, sb = strB lm := ⟨_, rfl⟩
                have HTB := Lib.hid hsb
                have HTX := HTA
                clear hsa hsb
                have HRO := Lib.hid hro
                have HRM := Lib.hid hrm
                have HRX := Lib.hid hrx
                clear hro hrm hrx
                go_wp2_with (first
                  | (go_at_call 22; have _t := tok1; clear tok1; go_must (clear _t; refine (HRO.out _ HB3.out).mono ?_; rintro e wa ⟨Aa, ca, rfl, hsa, hba⟩; have HSA := Lib.hid hsa; have HBA := Lib.hid (bthen HB3.out hba); clear hsa hba))
                  | (go_at_call 22; have _t := tok2; clear tok2; go_must (clear _t; refine (HRM.out _ HBA.out).mono ?_; rintro e wb ⟨Ab, cb, rfl, hsb, hbb⟩; have HSB := Lib.hid hsb; have HBB := Lib.hid (bthen HBA.out hbb); have HSA1 := Lib.hid (HSA.out.below hbb); clear hsb hbb))
                  | (go_at_call 22; go_must (refine (HRX.out _ HBB.out).mono ?_; rintro e wd ⟨Ax, cx, rfl, hsx, hbx⟩; have HSX := Lib.hid hsx; have HBX := Lib.hid (bthen HBB.out hbx); have HSA2 := Lib.hid (HSA1.out.below hbx); have HSB2 := Lib.hid (HSB.out.below hbx); have ea := run_string_bytes (P := Try.prog) 26 9 5 Try.underlying26 Try.underlying9 Try.underlying5 HSA2.out; have eb := run_string_bytes (P := Try.prog) 26 9 5 Try.underlying26 Try.underlying9 Try.underlying5 HSB2.out; have ex := run_string_bytes (P := Try.prog) 26 9 5 Try.underlying26 Try.underlying9 Try.underlying5 hsx; rw [← HTA.out] at ea; rw [← HTB.out] at eb; rw [← HTX.out] at ex; have hcl := HCQ.out _ HBX.out; clear hsx hbx)))
                go_roundw
                case rel => exact ⟨i + 1, kk, t, by omega, rfl, rfl, by go_num, hkk, ht, P1, P2, hp3, HBX⟩
                case measure => simp [intOf]; omega
              · have hke : kk = k2'.looseL.length := by omega
                have hkf : ¬ ((kk : Int) < (k2'.looseL.length : Int)) := by omega
                clear hin hk1 hke
                obtain ⟨sa, hsa⟩ : ∃ sa, sa = strB lx := ⟨_, rfl⟩
                have HTA := Lib.hid hsa
                obtain ⟨sb, hsb⟩ : ∃ sb, sb = strB lm := ⟨_, rfl⟩
                have HTB := Lib.hid hsb
                have HTX := HTA
                clear hsa hsb
                have HRO := Lib.hid hro
                have HRM := Lib.hid hrm
                have HRX := Lib.hid hrx
                clear hro hrm hrx
                go_wp2_with (first
                  | (go_at_call 22; have _t := tok1; clear tok1; go_must (clear _t; refine (HRO.out _ HB3.out).mono ?_; rintro e wa ⟨Aa, ca, rfl, hsa, hba⟩; have HSA := Lib.hid hsa; have HBA := Lib.hid (bthen HB3.out hba); clear hsa hba))
                  | (go_at_call 22; have _t := tok2; clear tok2; go_must (clear _t; refine (HRM.out _ HBA.out).mono ?_; rintro e wb ⟨Ab, cb, rfl, hsb, hbb⟩; have HSB := Lib.hid hsb; have HBB := Lib.hid (bthen HBA.out hbb); have HSA1 := Lib.hid (HSA.out.below hbb); clear hsb hbb))
                  | (go_at_call 22; go_must (refine (HRX.out _ HBB.out).mono ?_; rintro e wd ⟨Ax, cx, rfl, hsx, hbx⟩; have HSX := Lib.hid hsx; have HBX := Lib.hid (bthen HBB.out hbx); have HSA2 := Lib.hid (HSA1.out.below hbx); have HSB2 := Lib.hid (HSB.out.below hbx); have ea := run_string_bytes (P := Try.prog) 26 9 5 Try.underlying26 Try.underlying9 Try.underlying5 HSA2.out; have eb := run_string_bytes (P := Try.prog) 26 9 5 Try.underlying26 Try.underlying9 Try.underlying5 HSB2.out; have ex := run_string_bytes (P := Try.prog) 26 9 5 Try.underlying26 Try.underlying9 Try.underlying5 hsx; rw [← HTA.out] at ea; rw [← HTB.out] at eb; rw [← HTX.out] at ex; clear hsx hbx)))
                go_roundw
                case rel => exact ⟨i + 1, kk, t, by omega, rfl, rfl, by go_num, hkk, ht, P1, P2, hp3, HBX⟩
                case measure => simp [intOf]; omega
          · obtain rfl : i = k1.n := by omega
            have ht1 : (t : Int) ≤ 1 := by omega
            go_wp2_with fail
            go_ret
            exact ⟨rfl, bthen HB00.out (below_trans2 HBX0.out HB3.out)⟩
  · have HG := Lib.hid hg
    clear hg hs hz
    go_enter Try.func8, Try.ntmps8
    go_upto_region 1 with fail
    generalize (w.alloc (.cells #[.slice KA mk kc, .int .i64 torn, .int .i64 cut] 44)) = W0 at HO HO2 HK KC HB00 ⊢
    go_wp2_with (first
      | (go_at_call 19; go_must (refine (awakeS_true _).mono ?_; rintro e w1 ⟨rfl, hb1⟩; have HB1 := Lib.hid hb1; clear hb1))
      | (go_at_call 20; go_must (refine (begin_bad s z _ HG.out).mono ?_; rintro e w2 ⟨rfl, hw2⟩; obtain rfl := hw2.symm)))
    go_ret
    exact ⟨rfl, bthen HB00.out HB1.out⟩
end Go.Proofs.Ytaldjmhikebecaa
