/- Layer 8 (sector): Crash. -/
import Derived.Test.YtaldjmhikebecaaGreatKeepW
namespace Go.Proofs.YtaldjmhikebecaaGreat
open Go Go.RowKit Go.ChangeMaps Go.MapKept Go.WideShapes
set_option maxRecDepth 100000
set_option linter.unusedVariables false
attribute [local go_sem] Oper.semAt_some
theorem frozen_at {W W' : World} {p : Addr} (h : W'.heap[p.block]? = W.heap[p.block]?) : W'.frozen? p = W.frozen? p := by unfold World.frozen?; rw [h]
theorem cut_to (A : Option Addr) (n c q : Nat) (hq : q ≤ c) (W : World) : (Instr.slice 51 (.slice A n c) none (some (.int .i64 (q : Int))) none).run Tryz.prog W = .ok (.slice A q c) W := by
  obtain ⟨i, hi', _, hs, _⟩ := info_parts info_u8
  have hel : Tryz.prog.elem 51 = 5 := by simp [Program.elem, Tryz.underlying51]
  have hu : Tryz.prog.underlying 51 = some (.slice (Tryz.prog.elem 51)) := by rw [hel]; exact Tryz.underlying51
  rw [run_slice_h W 51 A n c hu .i64 (q : Int) (by omega) (by omega), hel]
  have ha : A.map (fun a => a.add 0) = A := by cases A <;> simp [Addr.add]
  simp [sizeOf, typeInfo, hi', hs, sliced, Result.andThen, ha]
theorem clear_own {P : Program} {w : World} {b n : Nat} {kt e t : TypeId} {R : Value → Option (DataW Value × List MemPlace)} {D : DataW Value} (h : w.ownsMap P kt R b n D) (ht : P.underlying t = some (.map kt e)) :
    ∃ w', (∀ ty, (Builtin.clear_ #[t] ty #[.map (some b)]).run P w = .ok (.tuple #[]) w') ∧ w'.ownsMap P kt R b 0 (.map []) ∧ w.grownBy w' (some b) := by
  obtain ⟨es, clock, hb, F, _, _⟩ := h
  refine ⟨setBlock w b (.map #[] clock), fun ty => ?_, ⟨#[], clock, heap_setBlock_same hb _, ⟨by simp, stamped_empty clock, by simp⟩, Nat.le_refl _, rfl⟩, ⟨rfl, rfl, rfl, by simp [setBlock], fun i _ hi => heap_setBlock_other hb _ (fun e => hi (by rw [e]))⟩⟩
  simp [Builtin.clear_, run_underlying ht, MapKept.run_getObj_map hb, MapKept.run_setObj_map _ hb, Result.andThen, setBlock]
def cutN (cut : Int) (size : Nat) : Nat := min cut.toNat size
def Dsk.crashAt (k : Dsk) (keep : List Bool) (torn cut : Int) : Nat → Dsk
  | 0 => k
  | j + 1 =>
    let k' := k.crashAt keep torn cut j
    let i := k.looseL.getD j 0
    let l := (k.loose i).getD []
    if (j : Int) = torn then (if k'.bad i then k' else k'.lay i (l.take (cutN cut k.size))) else if keep.getD j false then k'.keep i l else k'
def Dsk.calm (k : Dsk) : Dsk := { k with loose := fun _ => none, set := false }
def Dsk.crash (k : Dsk) (keep : List Bool) (torn cut : Int) : Dsk := (k.crashAt keep torn cut k.looseL.length).calm
theorem crashAt_dims (k : Dsk) (keep : List Bool) (torn cut : Int) (j : Nat) : (k.crashAt keep torn cut j).n = k.n ∧ (k.crashAt keep torn cut j).size = k.size ∧ (k.crashAt keep torn cut j).loose = k.loose ∧ (k.crashAt keep torn cut j).set = k.set ∧ (k.crashAt keep torn cut j).left = k.left := by
  induction j with
  | zero => exact ⟨rfl, rfl, rfl, rfl, rfl⟩
  | succ j ih =>
    simp only [Dsk.crashAt]
    split
    · split
      · exact ih
      · exact ih
    · split
      · exact ih
      · exact ih
theorem crashAt_sp (k : Dsk) (keep : List Bool) (torn cut : Int) (j : Nat) : (k.crashAt keep torn cut j).sp = k.sp := by
  induction j with
  | zero => rfl
  | succ j ih =>
    simp only [Dsk.crashAt]
    split
    · split
      · exact ih
      · exact ih
    · split
      · exact ih
      · exact ih
section
variable {w w' : World} {d fb lb bb c : Nat} {k : Dsk} {X : Nat → Prop}
def NoU8 (xs : List Value) : Prop := ∀ x ∈ xs, ∀ v, x ≠ .int .u8 v
theorem rd_touch (t : Touch (fun b => b = fb ∨ b = bb) w w') (h : OnDisk X w d fb lb bb c k) {A : Option Addr} {n c' : Nat} {xs : List Value} (hr : Rd w 1 A n c' xs) (hx : NoU8 xs) : Rd w' 1 A n c' xs := by
  obtain ⟨E, cb, hm, _⟩ := h.bd
  obtain ⟨es, cl, hmo⟩ := own_map_obj hm
  refine ⟨hr.1, hr.2.1, hr.2.2.1, fun h0 => ?_⟩
  obtain ⟨ad, e, hc⟩ := hr.2.2.2 h0
  refine ⟨ad, e, fun j u hu => t.cell (hc j u hu) ?_⟩
  have hcell := hc j u hu
  rintro (e1 | e1)
  · unfold World.cell? at hcell
    rw [e1, h.fst] at hcell
    dsimp only at hcell
    split at hcell
    · cases hcell
    · have := Array.mem_of_getElem? hcell
      simp only [List.mem_toArray, bytes, List.mem_map] at this
      obtain ⟨y, _, rfl⟩ := this
      exact hx _ (List.mem_of_getElem? hu) _ rfl
  · unfold World.cell? at hcell
    rw [e1, hmo] at hcell
    cases hcell
theorem rd_blk (h : OnDisk X w d fb lb bb c k) {A : Option Addr} {n c' : Nat} {xs : List Value} (hr : Rd w 1 A n c' xs) (hx : NoU8 xs) (j : Nat) (hj : j < n) (ad : Addr) (e : A = some ad) : ¬ (ad.block = fb ∨ ad.block = bb) := by
  obtain ⟨E, cb, hm, _⟩ := h.bd
  obtain ⟨es, cl, hmo⟩ := own_map_obj hm
  obtain ⟨ad', e', hcell⟩ := hr.at_ hj
  rw [e] at e'
  cases e'
  rintro (e1 | e1)
  · unfold World.cell? at hcell
    rw [block_add, e1, h.fst] at hcell
    dsimp only at hcell
    split at hcell
    · cases hcell
    · have := Array.mem_of_getElem? hcell
      simp only [List.mem_toArray, bytes, List.mem_map] at this
      obtain ⟨y, _, hy⟩ := this
      exact hx _ (List.getElem_mem _) _ hy.symm
  · unfold World.cell? at hcell
    rw [block_add, e1, hmo] at hcell
    cases hcell
theorem noU8_bools (l : List Bool) : NoU8 (l.map Value.bool) := by
  intro x hx v e
  obtain ⟨b, _, rfl⟩ := List.mem_map.1 hx
  cases e
theorem noU8_ints (l : List Int) : NoU8 (l.map (Value.int .i64)) := by
  intro x hx v e
  obtain ⟨b, _, rfl⟩ := List.mem_map.1 hx
  cases e
theorem OnDisk.calm (h : OnDisk X w d fb lb bb c k) {w2 : World} (hD : w2.ownsMap Tryz.prog 3 rawR lb 0 (.map [])) (hg : w.grownBy w2 (some lb)) : OnDisk X (w2.setCell ⟨d, 5, none⟩ (.bool false)) d fb lb bb c k.calm := by
  have h1 : OnDisk X w2 d fb lb bb c { k with loose := fun _ => none } := h.reloose hg (hD.mono (Nat.zero_le _)) h.cnt (Nat.le_refl _) _ ⟨fun i _ => rfl, fun kl hk => by cases hk⟩
  exact h1.turn { k with loose := fun _ => none, set := false } rfl h.lf (Touch.of_set (S := (· = d)) w2 (p := ⟨d, 5, none⟩) _ rfl) (blk_set h1.blk 5 _)
set_option maxHeartbeats 4000000 in
theorem Crash_ok (h : OnDisk X w d fb lb bb c k) (KA : Option Addr) (m kc : Nat) (keep : List Bool) (torn cut : Int) (hK : Rd w 1 KA m kc (keep.map Value.bool)) : Calls Tryz.prog 16 #[.pointer (some ⟨d, 0, none⟩), .agg #[.slice KA m kc, .int .i64 torn, .int .i64 cut]] w fun e w' =>
    e = .returned (.int .i64 0) ∧ OnDisk X w' d fb lb bb c (k.crash keep torn cut) ∧ Touch (fun b => b = d ∨ b = fb ∨ b = lb ∨ b = bb) w w' := by
  have hn2 := h.n2
  have hlts := h.lts
  have hbl := Lib.hid h.blocks
  have b1 := (Below.refl _ w).alloc (Nat.le_refl _) (.cells #[.slice KA m kc, .int .i64 torn, .int .i64 cut] 33)
  have HMADE := Lib.hid (disk_made (h.below b1))
  have HLOO := Lib.hid (Loose_ok (h.below b1))
  have HD := Lib.hid (h.below b1)
  have HK := Lib.hid (hK.below b1)
  have HX := Lib.hid (blk_new w (.cells #[.slice KA m kc, .int .i64 torn, .int .i64 cut] 33))
  have HB1 := Lib.hid b1
  have hkl : keep.length = m := by have := hK.1; simpa using this
  have hkm := hK.i64
  have HKL := Lib.hid hkl
  have hll := looseL_length k
  clear b1 h hK hkl
  go_enter Tryz.func16, Tryz.ntmps16
  go_wp2_with (first
    | (go_at_call 40; go_must (refine HMADE.out.mono ?_; rintro e wx ⟨rfl, hwx⟩; obtain rfl := hwx.symm))
    | (go_at_call 47; go_must (refine HLOO.out.mono ?_; rintro e w2 ⟨LA, lc, rfl, ho, hb⟩; have HR2 := Lib.hid (Rd.of_own ho); have HD2 := Lib.hid (HD.out.below hb); have HK2 := Lib.hid (HK.out.below hb); have HX2 := Lib.hid (blk_below HX.out hb); have HB2 := Lib.hid (HB1.out.trans (hb.mono HB1.out.size)); clear ho hb)))
  go_loopw [16] (fun i' wr => ∃ j : Nat, j ≤ k.looseL.length ∧ i' = .int .i64 (j : Int) ∧ Hid (OnDisk X wr d fb lb bb c (k.crashAt keep torn cut j)) ∧ Hid (Rd wr 1 LA k.looseL.length lc ((ints k.looseL).map (Value.int .i64))) ∧ Hid (Rd wr 1 KA m kc (keep.map Value.bool)) ∧ Hid (Touch (fun b => b = fb ∨ b = bb) w wr) ∧ Hid (wr.heap[w.heap.size]? = some (.cells #[.slice KA m kc, .int .i64 torn, .int .i64 cut] 33 (0, 0)))) (fun i' _ => k.looseL.length - (intOf i').toNat)
  case atStart => exact ⟨0, Nat.zero_le _, rfl, HD2, HR2, HK2, Lib.hid (Touch.of_below HB2.out), HX2⟩
  case round =>
    obtain ⟨j, hj, rfl, hd, hr, hk, ht, hx⟩ := hrel
    by_cases hlt : j < k.looseL.length
    · obtain ⟨ad, rfl, hcell⟩ := hr.out.at_ hlt
      obtain ⟨q, hq⟩ : ∃ q, q = k.looseL.getD j 0 := ⟨_, rfl⟩
      have hqe : k.looseL[j]? = some q := by rw [hq, List.getD_eq_getElem?_getD, List.getElem?_eq_getElem hlt]; rfl
      have hqm := mem_looseL.1 (List.mem_of_getElem? hqe)
      obtain ⟨l, hlo⟩ := Option.isSome_iff_exists.1 hqm.2
      have hqn := hqm.1
      have hcq : wr.cell? (ad.add j) = some (.int .i64 (q : Int)) := by
        rw [hcell]
        have : (ints k.looseL)[j]? = some (q : Int) := by simp [ints, hqe]
        have h2 := (List.getElem?_eq_some_iff.1 this).2
        simp only [List.getElem_map, h2]
      have hdim := crashAt_dims k keep torn cut j
      have hkey := Lib.hid (key_of q (by omega))
      obtain ⟨E, cb, hmb, _, hbb⟩ := hd.out.bd
      have HMB := Lib.hid hmb
      have hb0 := hbb q (by rw [hdim.1]; exact hqn)
      have y4 : wr.cell? ⟨d, 4, none⟩ = some (.map (some bb)) := hd.out.cell 4
      have x1 : wr.cell? ⟨w.heap.size, 1, none⟩ = some (.int .i64 torn) := blk_cell hx.out 1
      have x0 : wr.cell? ⟨w.heap.size, 0, none⟩ = some (.slice KA m kc) := blk_cell hx.out 0
      have hlt2 := blk_lt hx.out
      have HQN := Lib.hid (show q < (k.crashAt keep torn cut j).n by rw [hdim.1]; exact hqn)
      have HLO := Lib.hid (show (k.crashAt keep torn cut j).loose q = some l by rw [hdim.2.2.1]; exact hlo)
      have hgd : (k.loose (k.looseL.getD j 0)).getD [] = l := by rw [← hq, hlo]; rfl
      have HD9 := Lib.hid (hd.out.alloc (.cells #[] 91))
      clear hcell hmb hbb hqe hqm
      have ht1 : Touch (fun b => b = fb ∨ b = bb) wr (wr.alloc (.cells #[] 91)) := Touch.of_below ((Below.refl _ wr).alloc (Nat.le_refl _) _)
      have HT1 := Lib.hid ht1
      clear ht1
      by_cases htj : (j : Int) = torn
      · have he : ((j : Int) == torn) = true := by rw [beq_iff_eq]; exact htj
        have he3 : ((j : Int) != torn) = false := by simp [htj]
        cases hbq : (k.crashAt keep torn cut j).bad q with
        | true =>
          have HNX := Lib.hid (show k.crashAt keep torn cut (j + 1) = k.crashAt keep torn cut j from by simp only [Dsk.crashAt]; rw [if_pos htj, ← hq, hbq]; rfl)
          rw [hbq] at hb0
          have HB0 := Lib.hid hb0
          clear hb0 hbq hgd hlo hq hdim htj
          go_wp2_with (at_lookup; go_must (refine wpList_lookup_unit _ rfl _ _ 78 rfl 3 91 int_law Tryz.underlying78 (zero_unit _) bb cb E rfl HMB.out _ (key q) rfl hkey.out _ HB0.out ?_))
          go_roundw
          case rel =>
            have htt := HT1.out
            exact ⟨j + 1, by omega, by go_num, Lib.hid (by rw [HNX.out]; exact HD9.out), Lib.hid (rd_touch htt hd.out hr.out (noU8_ints _)), Lib.hid (rd_touch htt hd.out hk.out (noU8_bools _)), Lib.hid (ht.out.trans htt), Lib.hid (htt.blk hx.out (by have := hlts; omega))⟩
          case measure => simp [intOf]; omega
        | false =>
          have HNX := Lib.hid (show k.crashAt keep torn cut (j + 1) = (k.crashAt keep torn cut j).lay q (l.take (cutN cut k.size)) from by simp only [Dsk.crashAt]; rw [if_pos htj, hgd, ← hq, hbq]; rfl)
          rw [hbq] at hb0
          have HB0 := Lib.hid hb0
          obtain ⟨qn, hqc⟩ : ∃ qn, qn = cutN cut k.size := ⟨_, rfl⟩
          have hqs : qn ≤ k.size := by rw [hqc]; exact Nat.min_le_right _ _
          have hcut : min (max cut 0) (k.size : Int) = (qn : Int) := by rw [hqc, cutN, ← Int.ofNat_toNat cut]; omega
          rw [← hqc] at HNX
          obtain ⟨D, hm, hl⟩ := HD9.out.loo
          have hli := hl.at_ q HQN.out
          rw [HLO.out] at hli
          obtain ⟨_, A2, c2, hat, hbs, _⟩ := hli
          rw [hdim.2.1] at hat hbs
          have HBS := Lib.hid (hbs.take hqs c2 (Nat.le_trans hqs hbs.2.1) hbs.2.2.1)
          have hsl := cut_to A2 k.size c2 qn (Nat.le_trans hqs hbs.2.1)
          have HLK := Lib.hid (fun (W : World) (hb : Below (wr.alloc (.cells #[] 91)).heap.size (wr.alloc (.cells #[] 91)) W) => look_raw (own_map_block hm (hb.block _ hm.lt)) (by omega) (hat (.held (.slice none 0 0))))
          have HBQ := Lib.hid (fun n : Nat => below_drewN (Below.refl (wr.alloc (.cells #[] 91)).heap.size (wr.alloc (.cells #[] 91))) n)
          have HDQ := Lib.hid (fun n : Nat => HD9.out.below (HBQ.out n))
          have HQS := Lib.hid (show qn ≤ (k.crashAt keep torn cut j).size by rw [hdim.2.1]; exact hqs)
          have z1 : (wr.alloc (.cells #[] 91)).cell? ⟨d, 1, none⟩ = some (.int .i64 (k.size : Int)) := by have := HD9.out.cell 1; rw [this]; simp only [Dsk.cells, hdim.2.1]; rfl
          have z3 : (wr.alloc (.cells #[] 91)).cell? ⟨d, 3, none⟩ = some (.map (some lb)) := HD9.out.cell 3
          have x2 : wr.cell? ⟨w.heap.size, 2, none⟩ = some (.int .i64 cut) := blk_cell hx.out 2
          have x19 : (wr.alloc (.cells #[] 91)).cell? ⟨w.heap.size, 1, none⟩ = some (.int .i64 torn) := blk_cell (blk_alloc hx.out _) 1
          clear hb0 hbq hgd hlo hq hdim htj hm hl hat hbs hqc hqs
          go_wp2_with (at_lookup; go_must (refine wpList_lookup_unit _ rfl _ _ 78 rfl 3 91 int_law Tryz.underlying78 (zero_unit _) bb cb E rfl HMB.out _ (key q) rfl hkey.out _ HB0.out ?_))
          go_quiet (fail)
          go_wp2
          rename_i nq
          have hlk0 := HLK.out _ (HBQ.out (nq + 1))
          go_region_with (go_at_call 48; go_must (refine (at_ok (HDQ.out _) q HQN.out).mono ?_; rintro e w6 ⟨rfl, hb⟩; have hbw := (HBQ.out _).trans (hb.mono (HBQ.out _).size); have hlk1 := HLK.out w6 hbw; have z31 := cell_keep hbw z3; obtain ⟨w7, hrun, hd7, hg7⟩ := ((HD9.out).below hbw).copy HQN.out (HBS.out.below hbw) HQS.out; have HD7 := Lib.hid hd7; have HG7 := Lib.hid hg7; have HBW := Lib.hid hbw; have x17 : w7.cell? ⟨w.heap.size, 1, none⟩ = some (.int .i64 torn) := hg7.cell (cell_keep hbw x19) (by simp; omega); clear hb hbw hd7 hg7))
          all_goals
            go_wp2
            go_roundw
            case rel =>
              have htt := HT1.out.trans ((Touch.of_below HBW.out).trans (Touch.of_grown (S := fun b => b = fb ∨ b = bb) HG7.out (fun i hi => .inl (Option.some.inj hi).symm)))
              exact ⟨j + 1, by omega, by go_num, Lib.hid (by rw [HNX.out]; exact HD7.out), Lib.hid (rd_touch htt hd.out hr.out (noU8_ints _)), Lib.hid (rd_touch htt hd.out hk.out (noU8_bools _)), Lib.hid (ht.out.trans htt), Lib.hid (htt.blk hx.out (by have := hlts; omega))⟩
            case measure => simp [intOf]; omega
      · have he : ((j : Int) == torn) = false := by rw [beq_eq_false_iff_ne]; exact htj
        have he3 : ((j : Int) != torn) = true := by simp [htj]
        by_cases hjm : j < m
        · obtain ⟨kad, rfl, hkc⟩ := hk.out.at_ hjm
          have hkj : keep.getD j false = keep[j]'(by have := HKL.out; omega) := by simp [List.getD, List.getElem?_eq_getElem (show j < keep.length by have := HKL.out; omega)]
          simp only [List.getElem_map] at hkc
          rw [← hkj] at hkc
          cases hkb : keep.getD j false with
          | true =>
            have HNX := Lib.hid (show k.crashAt keep torn cut (j + 1) = (k.crashAt keep torn cut j).keep q l from by simp only [Dsk.crashAt]; rw [if_neg htj, hkb, if_pos rfl, hgd, ← hq])
            rw [hkb] at hkc
            have hkc1 := HT1.out.cell hkc (by have := rd_blk hd.out hk.out (noU8_bools _) j hjm _ rfl; rw [block_add]; exact this)
            have HB0 := Lib.hid hb0
            clear hb0 hgd hlo hq hdim htj hkj hkb
            go_wp2_with (first | (at_lookup; go_must (refine wpList_lookup_unit _ rfl _ _ 78 rfl 3 91 int_law Tryz.underlying78 (zero_unit _) bb cb E rfl HMB.out _ (key q) rfl hkey.out _ HB0.out ?_)) | (go_at_call 42; go_must (refine (keep_ok HD9.out q HQN.out l HLO.out).mono ?_; rintro e w5 ⟨⟨v5, rfl⟩, hd5, ht5⟩; have HD5 := Lib.hid hd5; have HT5 := Lib.hid ht5; clear hd5 ht5)))
            go_roundw
            case rel =>
              have htt := HT1.out.trans HT5.out
              exact ⟨j + 1, by omega, by go_num, Lib.hid (by rw [HNX.out]; exact HD5.out), Lib.hid (rd_touch htt hd.out hr.out (noU8_ints _)), Lib.hid (rd_touch htt hd.out hk.out (noU8_bools _)), Lib.hid (ht.out.trans htt), Lib.hid (htt.blk hx.out (by have := hlts; omega))⟩
            case measure => simp [intOf]; omega
          | false =>
            have HNX := Lib.hid (show k.crashAt keep torn cut (j + 1) = k.crashAt keep torn cut j from by simp only [Dsk.crashAt]; rw [if_neg htj, hkb]; rfl)
            rw [hkb] at hkc
            have hkc1 := HT1.out.cell hkc (by have := rd_blk hd.out hk.out (noU8_bools _) j hjm _ rfl; rw [block_add]; exact this)
            have HB0 := Lib.hid hb0
            clear hb0 hgd hlo hq hdim htj hkj hkb
            go_wp2_with (at_lookup; go_must (refine wpList_lookup_unit _ rfl _ _ 78 rfl 3 91 int_law Tryz.underlying78 (zero_unit _) bb cb E rfl HMB.out _ (key q) rfl hkey.out _ HB0.out ?_))
            go_roundw
            case rel =>
              have htt := HT1.out
              exact ⟨j + 1, by omega, by go_num, Lib.hid (by rw [HNX.out]; exact HD9.out), Lib.hid (rd_touch htt hd.out hr.out (noU8_ints _)), Lib.hid (rd_touch htt hd.out hk.out (noU8_bools _)), Lib.hid (ht.out.trans htt), Lib.hid (htt.blk hx.out (by have := hlts; omega))⟩
            case measure => simp [intOf]; omega
        · have HNX := Lib.hid (show k.crashAt keep torn cut (j + 1) = k.crashAt keep torn cut j from by simp only [Dsk.crashAt]; rw [if_neg htj]; simp [List.getD, List.getElem?_eq_none (show keep.length ≤ j by have := HKL.out; omega)])
          have HB0 := Lib.hid hb0
          have hjm' : ¬ (j : Int) < (m : Int) := by omega
          clear hb0 hgd hlo hq hdim htj
          go_wp2_with (at_lookup; go_must (refine wpList_lookup_unit _ rfl _ _ 78 rfl 3 91 int_law Tryz.underlying78 (zero_unit _) bb cb E rfl HMB.out _ (key q) rfl hkey.out _ HB0.out ?_))
          go_roundw
          case rel =>
            have htt := HT1.out
            exact ⟨j + 1, by omega, by go_num, Lib.hid (by rw [HNX.out]; exact HD9.out), Lib.hid (rd_touch htt hd.out hr.out (noU8_ints _)), Lib.hid (rd_touch htt hd.out hk.out (noU8_bools _)), Lib.hid (ht.out.trans htt), Lib.hid (htt.blk hx.out (by have := hlts; omega))⟩
          case measure => simp [intOf]; omega
    · obtain rfl : j = k.looseL.length := by omega
      obtain ⟨D, hm, hl⟩ := hd.out.loo
      obtain ⟨w2, hclr, ho2, hg2⟩ := clear_own hm Tryz.underlying77
      have HO2 := Lib.hid ho2
      have HG2 := Lib.hid hg2
      have y3 : wr.cell? ⟨d, 3, none⟩ = some (.map (some lb)) := hd.out.cell 3
      have yf : w2.frozen? ⟨d, 5, none⟩ = false := (frozen_at (p := ⟨d, 5, none⟩) (hg2.block d hd.out.lts.1 (by have := hbl.out.2.1; simpa using this))).trans (hd.out.frozen 5)
      have y5 : w2.cell? ⟨d, 5, none⟩ = some (.bool (k.crashAt keep torn cut k.looseL.length).set) := hg2.cell (hd.out.cell 5) (by have := hbl.out.2.1; simpa using this)
      clear hm hl ho2 hg2
      go_wp2
      go_ret
      refine ⟨rfl, hd.out.calm HO2.out HG2.out, ?_⟩
      exact ((ht.out.mono (fun i _ hi => by rcases hi with rfl | rfl <;> simp)).trans (Touch.of_grown HG2.out (fun i hi => .inr (.inr (.inl (Option.some.inj hi).symm))))).trans (Touch.of_set _ _ (.inl rfl))
end
end Go.Proofs.YtaldjmhikebecaaGreat
