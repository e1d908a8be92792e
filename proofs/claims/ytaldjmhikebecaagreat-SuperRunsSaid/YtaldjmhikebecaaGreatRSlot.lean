/- The reference of layer 9: the superblock of a slot. -/
import Derived.Test.YtaldjmhikebecaaGreatRSup
import Derived.Deep.RegionHeld3
namespace Go.Proofs.YtaldjmhikebecaaGreat
open Go Go.RowKit
set_option maxRecDepth 100000
set_option linter.unusedVariables false
attribute [local go_sem] Oper.semAt_some
theorem oper_store_blk {P : Program} {w : World} {o : Oper} {a : Act} {K : Act → World → Prop} {Q : Exit → Act → World → Prop} (t : TypeId) (x v : Operand)
    (ho : o.op = .store t x v) {b tb : Nat} {cs vs : Array Value} (hx : a.eval x = .pointer (some ⟨b, 0, none⟩)) (hv : a.eval v = .agg vs) (ie : TypeInfo) (hie : P.info? t = some ie) (hs : vs.size = ie.size)
    (h1 : ∀ u ∈ vs.toList, u.oneCell' = true) (hb : w.heap[b]? = some (.cells cs tb (0, 0))) (hcs : cs.size = vs.size) (hd : o.dst = none) (h : K a (w.setRow b vs)) : Oper.wp P o a w K Q := by
  have hr := run_storeCells_atF P b 0 tb (0, 0) vs.toList 0 cs w hb (by simp) (by simp [hcs]) h1
  have he : (cs.toList.take (0 + 0) ++ vs.toList ++ cs.toList.drop (0 + 0 + vs.toList.length)).toArray = vs := by
    rw [List.drop_eq_nil_of_le (by simp [hcs])]; simp
  rw [he] at hr
  unfold Oper.wp
  simp [execOp, ho, hx, hv, Instr.storeAt, Instr.sureAddr, storeVar, Value.cells, sizeOf, info_run t ie hie, hs, hr, Result.andThen]
  simp only [Oper.upon, hd, Act.put]
  exact h
theorem take_at {P : Program} {md : Region.Mode} {ops : Array Oper} {Q : Exit → Act → World → Prop} {S : World → Prop} {i : Nat} {oi : Oper} {v : Value} {fuel : Nat} {listed : Array Bool} {a : Act} {w : World} {dst : Option Nat} (hi : ops[i]? = some oi) (hd : oi.dst = dst)
    (hs : Region.noSelect ops = true) (hf : Region.free md ops listed i = true) (hr : (Region.ready md ops listed).contains i = true)
    (hQ : ∀ c a w, Q (.panic c) (a.put dst v) w → Q (.panic c) a w) (hy : YieldsIf P ops S oi v a) (hS : S w)
    (h : wpAnyH P md ops Q S fuel (listed.setIfInBounds i true) (a.put dst v) w) : wpAnyH P md ops Q S (fuel + 1) listed a w := by
  subst hd
  exact wpAnyH_take hi hs hf hr hQ hy hS h
def Dsk.slotS (k : Dsk) (i : Nat) : Sup := match k.read i 1 with
  | none => Sup.zero
  | some l => (decode l).1
section
variable {w w' : World} {r L cap : Nat} {k : Dsk} {X : Nat → Prop}
set_option maxHeartbeats 4000000 in
theorem RSlot_ok (h : OnRef X w r L cap k) (i : Nat) (hi : i < 2) (hn : 2 ≤ k.n) : Calls Tryz.prog 56 #[.pointer (some ⟨r, 0, none⟩), .int .i64 (i : Int)] w fun e w' => e = .returned (.tuple #[.agg (k.slotS i).cells, .bool (k.slot i).isSome]) ∧ Below w.heap.size w w' := by
  have hz := Lib.hid (show Sup.zero.cells = #[.int .u64 0, .int .i64 0, .int .i64 0, .int .i64 0, .int .i64 0, .int .i64 0, .int .i64 0, .int .i64 0, .int .u32 0] from rfl)
  have b1 : Below w.heap.size w (w.alloc (.cells #[.int .u64 0, .int .i64 0, .int .i64 0, .int .i64 0, .int .i64 0, .int .i64 0, .int .i64 0, .int .i64 0, .int .u32 0] 30)) := (Below.refl _ w).alloc (Nat.le_refl _) _
  have HB1 := Lib.hid b1
  have HX := Lib.hid (blk_new w (.cells #[.int .u64 0, .int .i64 0, .int .i64 0, .int .i64 0, .int .i64 0, .int .i64 0, .int .i64 0, .int .i64 0, .int .u32 0] 30))
  have hread := RRead_ok (h.below b1) i 1 (by omega)
  clear b1 h
  cases hrd : k.read i 1 with
  | none =>
    unfold RetRead at hread
    rw [hrd] at hread
    have e1 : k.slotS i = Sup.zero := by unfold Dsk.slotS; rw [hrd]
    have e2 : (k.slot i).isSome = false := by unfold Dsk.slot; rw [hrd]; rfl
    rw [e1, e2, hz.out]
    have HR := Lib.hid hread
    clear hread hrd e1 e2
    go_enter Tryz.func56, Tryz.ntmps56
    go_wp2_with (first
      | (go_at_call 81; go_must (refine HR.out.mono ?_; rintro e wx ⟨rfl, hbx⟩; have HX9 := Lib.hid (blk_below HX.out hbx); have HB9 := Lib.hid (HB1.out.trans (hbx.mono HB1.out.size)); clear hbx))
      | (refine wpList_store_blk rfl 30 _ _ rfl (b := w.heap.size) rfl rfl _ rfl rfl (by simp [Value.oneCell']) HX9.out rfl ?_; intro w9 hb9 hg9 hz9; have HB8 := Lib.hid hb9; have HG9 := Lib.hid hg9; clear hb9 hg9 hz9))
    refine bodyPost_ret (results_blk 4 5 30 rfl rfl rfl _ rfl rfl (fun _ => by simp [go_sem, isAgg]) HB8.out) rfl ⟨rfl, ?_⟩
    exact grown_bel HB9.out HG9.out (Nat.le_refl _)
  | some l =>
    unfold RetRead at hread
    rw [hrd] at hread
    simp only [Nat.one_mul] at hread
    have HR := Lib.hid hread
    have HDEC := Lib.hid (fun (A : Option Addr) (c' : Nat) (W : World) (hb : Bs W A k.size c' l) => RDecode_any A k.size c' l W hb)
    have e1 : k.slotS i = (decode l).1 := by unfold Dsk.slotS; rw [hrd]
    have e2 : (k.slot i).isSome = decide ((decode l).2 = 0 ∧ (decode l).1.serial % 2 = i) := by
      unfold Dsk.slot
      rw [hrd]
      by_cases hc : (decode l).2 = 0 ∧ (decode l).1.serial % 2 = i
      · rw [decide_eq_true hc]; simp only [if_pos hc]; rfl
      · rw [decide_eq_false hc]; simp only [if_neg hc]; rfl
    rw [e1, e2]
    clear hread hrd e1 e2
    obtain ⟨⟨sd, sc⟩, hdc⟩ : ∃ x, x = decode l := ⟨_, rfl⟩
    rw [← hdc] at HDEC ⊢
    clear hdc
    unfold RetS at HDEC
    simp only
    have hsd := Lib.hid (show sd.cells = #[.int .u64 sd.serial, .int .i64 sd.epoch, .int .i64 sd.view, .int .i64 sd.normal, .int .i64 sd.top, .int .i64 sd.base, .int .i64 sd.area, .int .i64 sd.start, .int .u32 sd.chain] from rfl)
    simp only [hsd.out] at HDEC ⊢
    have HSLOT : ∀ bb, (decide (sc = 0 ∧ sd.serial % 2 = i) = bb) → ((sc = 0 ∧ (((sd.serial : Int) % 2) == (i : Int)) = bb) ∨ ((sc == 0) = false ∧ bb = false)) → Calls Tryz.prog 56 #[.pointer (some ⟨r, 0, none⟩), .int .i64 (i : Int)] w fun e w' => e = .returned (.tuple #[.agg #[.int .u64 sd.serial, .int .i64 sd.epoch, .int .i64 sd.view, .int .i64 sd.normal, .int .i64 sd.top, .int .i64 sd.base, .int .i64 sd.area, .int .i64 sd.start, .int .u32 sd.chain], .bool bb]) ∧ Below w.heap.size w w' := by
      intro bb _ hbb
      have HBBH := Lib.hid hbb
      clear hbb
      go_enter Tryz.func56, Tryz.ntmps56
      go_wp2_with (first
        | (go_at_call 81; go_must (refine HR.out.mono ?_; rintro e wx ⟨A2, c2, rfl, ho, hbx⟩; have HO := Lib.hid ho; have HX9 := Lib.hid (blk_below HX.out hbx); have HB9 := Lib.hid (HB1.out.trans (hbx.mono HB1.out.size)); clear ho hbx))
        | (go_at_call 82; go_must (refine (HDEC.out A2 c2 _ (Bs.of_own HO.out)).mono ?_; rintro e wy ⟨rfl, hbx⟩; have HX8 := Lib.hid (blk_below HX9.out hbx); have HB8 := Lib.hid (HB9.out.trans (hbx.mono HB9.out.size)); clear hbx)))
      have HN8 := Lib.hid (blk_new wy (.cells #[.int .u64 sd.serial, .int .i64 sd.epoch, .int .i64 sd.view, .int .i64 sd.normal, .int .i64 sd.top, .int .i64 sd.base, .int .i64 sd.area, .int .i64 sd.start, .int .u32 sd.chain] 30))
      have HX7 := Lib.hid (blk_alloc HX8.out (.cells #[.int .u64 sd.serial, .int .i64 sd.epoch, .int .i64 sd.view, .int .i64 sd.normal, .int .i64 sd.top, .int .i64 sd.base, .int .i64 sd.area, .int .i64 sd.start, .int .u32 sd.chain] 30))
      have HB7 := Lib.hid (HB8.out.alloc HB8.out.size (.cells #[.int .u64 sd.serial, .int .i64 sd.epoch, .int .i64 sd.view, .int .i64 sd.normal, .int .i64 sd.top, .int .i64 sd.base, .int .i64 sd.area, .int .i64 sd.start, .int .u32 sd.chain] 30))
      generalize (wy.alloc (.cells #[.int .u64 sd.serial, .int .i64 sd.epoch, .int .i64 sd.view, .int .i64 sd.normal, .int .i64 sd.top, .int .i64 sd.base, .int .i64 sd.area, .int .i64 sd.start, .int .u32 sd.chain] 30)) = W8 at HN8 HX7 HB7 ⊢
      have KS := Lib.hid (fun (W : World) (hb : W.heap[wy.heap.size]? = some (.cells #[.int .u64 sd.serial, .int .i64 sd.epoch, .int .i64 sd.view, .int .i64 sd.normal, .int .i64 sd.top, .int .i64 sd.base, .int .i64 sd.area, .int .i64 sd.start, .int .u32 sd.chain] 30 (0, 0))) => (⟨blk_cell hb 0, blk_cell hb 1, blk_cell hb 2, blk_cell hb 3, blk_cell hb 4, blk_cell hb 5, blk_cell hb 6, blk_cell hb 7, blk_cell hb 8⟩ : W.cell? ⟨wy.heap.size, 0, none⟩ = some (.int .u64 sd.serial) ∧ W.cell? ⟨wy.heap.size, 1, none⟩ = some (.int .i64 sd.epoch) ∧ W.cell? ⟨wy.heap.size, 2, none⟩ = some (.int .i64 sd.view) ∧ W.cell? ⟨wy.heap.size, 3, none⟩ = some (.int .i64 sd.normal) ∧ W.cell? ⟨wy.heap.size, 4, none⟩ = some (.int .i64 sd.top) ∧ W.cell? ⟨wy.heap.size, 5, none⟩ = some (.int .i64 sd.base) ∧ W.cell? ⟨wy.heap.size, 6, none⟩ = some (.int .i64 sd.area) ∧ W.cell? ⟨wy.heap.size, 7, none⟩ = some (.int .i64 sd.start) ∧ W.cell? ⟨wy.heap.size, 8, none⟩ = some (.int .u32 sd.chain)))
      have hS0 := KS.out W8.drew HN8.out
      have hlt8 := blk_lt HX8.out
      have HS9 := Lib.hid (setRow_heap W8.drew w.heap.size _ #[.int .u64 sd.serial, .int .i64 sd.epoch, .int .i64 sd.view, .int .i64 sd.normal, .int .i64 sd.top, .int .i64 sd.base, .int .i64 sd.area, .int .i64 sd.start, .int .u32 sd.chain] _ _ HX7.out)
      have hS9 := KS.out (W8.drew.setRow w.heap.size #[.int .u64 sd.serial, .int .i64 sd.epoch, .int .i64 sd.view, .int .i64 sd.normal, .int .i64 sd.top, .int .i64 sd.base, .int .i64 sd.area, .int .i64 sd.start, .int .u32 sd.chain]) ((setRow_other W8.drew w.heap.size wy.heap.size _ (by omega)).trans HN8.out)
      have HB9' := Lib.hid (show Below w.heap.size w (W8.drew.setRow w.heap.size #[.int .u64 sd.serial, .int .i64 sd.epoch, .int .i64 sd.view, .int .i64 sd.normal, .int .i64 sd.top, .int .i64 sd.base, .int .i64 sd.area, .int .i64 sd.start, .int .u32 sd.chain]) from grown_bel HB7.out.drew ⟨rfl, rfl, rfl, by simp [World.setRow], fun k hk hn => setRow_other W8.drew w.heap.size k _ (fun e => hn (by rw [e]))⟩ (Nat.le_refl _))
      refine wp_region_noPanic ?_
      refine wp_region_held_drew (S := fun w' => w'.cell? ⟨wy.heap.size, 0, none⟩ = some (.int .u64 sd.serial) ∧ w'.cell? ⟨wy.heap.size, 1, none⟩ = some (.int .i64 sd.epoch) ∧ w'.cell? ⟨wy.heap.size, 2, none⟩ = some (.int .i64 sd.view) ∧ w'.cell? ⟨wy.heap.size, 3, none⟩ = some (.int .i64 sd.normal) ∧ w'.cell? ⟨wy.heap.size, 4, none⟩ = some (.int .i64 sd.top) ∧ w'.cell? ⟨wy.heap.size, 5, none⟩ = some (.int .i64 sd.base) ∧ w'.cell? ⟨wy.heap.size, 6, none⟩ = some (.int .i64 sd.area) ∧ w'.cell? ⟨wy.heap.size, 7, none⟩ = some (.int .i64 sd.start) ∧ w'.cell? ⟨wy.heap.size, 8, none⟩ = some (.int .u32 sd.chain)) (by kernel_rfl) hS0 (fun hHeld => ?_)
      rcases HBBH.out with ⟨rfl, hp⟩ | ⟨hc0, rfl⟩
      · refine take_at (i := 0) (dst := some 24) (v := ?_) rfl rfl (by kernel_rfl) (by kernel_rfl) (by kernel_rfl) (fun _ _ _ h => h) (Or.inl ⟨by rfl, ?_⟩) hHeld ?_
        rotate_left
        · intro w hSw
          (try dsimp only at hSw)
          first | (go_simp; done) | (go_simp; with_reducible rfl) | with_reducible rfl
        try simp only [Act.put, List.setIfInBounds_toArray, List.set_cons_zero, List.set_cons_succ]
        refine take_at (i := 1) (dst := some 25) (v := ?_) rfl rfl (by kernel_rfl) (by kernel_rfl) (by kernel_rfl) (fun _ _ _ h => h) (Or.inl ⟨by rfl, ?_⟩) hHeld ?_
        rotate_left
        · intro w hSw
          (try dsimp only at hSw)
          first | (go_simp; done) | (go_simp; with_reducible rfl) | with_reducible rfl
        try simp only [Act.put, List.setIfInBounds_toArray, List.set_cons_zero, List.set_cons_succ]
        refine take_at (i := 2) (dst := some 26) (v := ?_) rfl rfl (by kernel_rfl) (by kernel_rfl) (by kernel_rfl) (fun _ _ _ h => h) (Or.inl ⟨by rfl, ?_⟩) hHeld ?_
        rotate_left
        · intro w hSw
          (try dsimp only at hSw)
          first | (go_simp; done) | (go_simp; with_reducible rfl) | with_reducible rfl
        try simp only [Act.put, List.setIfInBounds_toArray, List.set_cons_zero, List.set_cons_succ]
        refine take_at (i := 3) (dst := some 27) (v := ?_) rfl rfl (by kernel_rfl) (by kernel_rfl) (by kernel_rfl) (fun _ _ _ h => h) (Or.inl ⟨by rfl, ?_⟩) hHeld ?_
        rotate_left
        · intro w hSw
          (try dsimp only at hSw)
          first | (go_simp; done) | (go_simp; with_reducible rfl) | with_reducible rfl
        try simp only [Act.put, List.setIfInBounds_toArray, List.set_cons_zero, List.set_cons_succ]
        refine take_at (i := 4) (dst := some 28) (v := ?_) rfl rfl (by kernel_rfl) (by kernel_rfl) (by kernel_rfl) (fun _ _ _ h => h) (Or.inl ⟨by rfl, ?_⟩) hHeld ?_
        rotate_left
        · intro w hSw
          (try dsimp only at hSw)
          first | (go_simp; done) | (go_simp; with_reducible rfl) | with_reducible rfl
        try simp only [Act.put, List.setIfInBounds_toArray, List.set_cons_zero, List.set_cons_succ]
        refine take_at (i := 5) (dst := some 29) (v := ?_) rfl rfl (by kernel_rfl) (by kernel_rfl) (by kernel_rfl) (fun _ _ _ h => h) (Or.inl ⟨by rfl, ?_⟩) hHeld ?_
        rotate_left
        · intro w hSw
          (try dsimp only at hSw)
          first | (go_simp; done) | (go_simp; with_reducible rfl) | with_reducible rfl
        try simp only [Act.put, List.setIfInBounds_toArray, List.set_cons_zero, List.set_cons_succ]
        refine take_at (i := 6) (dst := some 30) (v := ?_) rfl rfl (by kernel_rfl) (by kernel_rfl) (by kernel_rfl) (fun _ _ _ h => h) (Or.inl ⟨by rfl, ?_⟩) hHeld ?_
        rotate_left
        · intro w hSw
          (try dsimp only at hSw)
          first | (go_simp; done) | (go_simp; with_reducible rfl) | with_reducible rfl
        try simp only [Act.put, List.setIfInBounds_toArray, List.set_cons_zero, List.set_cons_succ]
        refine take_at (i := 7) (dst := some 31) (v := ?_) rfl rfl (by kernel_rfl) (by kernel_rfl) (by kernel_rfl) (fun _ _ _ h => h) (Or.inl ⟨by rfl, ?_⟩) hHeld ?_
        rotate_left
        · intro w hSw
          (try dsimp only at hSw)
          first | (go_simp; done) | (go_simp; with_reducible rfl) | with_reducible rfl
        try simp only [Act.put, List.setIfInBounds_toArray, List.set_cons_zero, List.set_cons_succ]
        refine take_at (i := 8) (dst := some 32) (v := ?_) rfl rfl (by kernel_rfl) (by kernel_rfl) (by kernel_rfl) (fun _ _ _ h => h) (Or.inl ⟨by rfl, ?_⟩) hHeld ?_
        rotate_left
        · intro w hSw
          (try dsimp only at hSw)
          first | (go_simp; done) | (go_simp; with_reducible rfl) | with_reducible rfl
        try simp only [Act.put, List.setIfInBounds_toArray, List.set_cons_zero, List.set_cons_succ]
        refine take_at (i := 9) (dst := some 33) (v := ?_) rfl rfl (by kernel_rfl) (by kernel_rfl) (by kernel_rfl) (fun _ _ _ h => h) (Or.inl ⟨by rfl, ?_⟩) hHeld ?_
        rotate_left
        · intro w hSw
          (try dsimp only at hSw)
          first | (go_simp; done) | (go_simp; with_reducible rfl) | with_reducible rfl
        try simp only [Act.put, List.setIfInBounds_toArray, List.set_cons_zero, List.set_cons_succ]
        refine take_at (i := 10) (dst := some 34) (v := ?_) rfl rfl (by kernel_rfl) (by kernel_rfl) (by kernel_rfl) (fun _ _ _ h => h) (Or.inl ⟨by rfl, ?_⟩) hHeld ?_
        rotate_left
        · intro w hSw
          (try dsimp only at hSw)
          first | (go_simp; done) | (go_simp; with_reducible rfl) | with_reducible rfl
        try simp only [Act.put, List.setIfInBounds_toArray, List.set_cons_zero, List.set_cons_succ]
        refine wpAnyH_ready (rs := [11]) (by kernel_rfl) (by simp) ?_
        refine AllReadyH.cons rfl (fun K hK => ?_) AllReadyH.nil
        rw [if_pos (by rfl)]
        refine oper_store_blk 30 _ _ rfl (b := w.heap.size) rfl rfl _ rfl rfl (by simp [Value.oneCell']) HX7.out rfl rfl ?_
        refine hK.out _ _ hS9 (fun hHeld => ?_)
        try simp only [Act.put, List.setIfInBounds_toArray, List.set_cons_zero, List.set_cons_succ]
        refine take_at (i := 12) (dst := some 5) (v := ?_) rfl rfl (by kernel_rfl) (by kernel_rfl) (by kernel_rfl) (fun _ _ _ h => h) (Or.inl ⟨by rfl, ?_⟩) hHeld ?_
        rotate_left
        · intro w hSw
          (try dsimp only at hSw)
          first | (go_simp; done) | (go_simp; with_reducible rfl) | with_reducible rfl
        try simp only [Act.put, List.setIfInBounds_toArray, List.set_cons_zero, List.set_cons_succ]
        refine wpAnyH_done (by kernel_rfl) ?_ _
        refine NoPanic.normal ?_
        go_wp2_with fail
        refine bodyPost_ret (results_blk 4 5 30 rfl rfl rfl _ rfl rfl (fun _ => by simp [go_sem, isAgg]) HS9.out) rfl ⟨?_, HB9'.out⟩
        have hwt : IntKind.i64.wrap ((sd.serial : Int).tmod 2) = (sd.serial : Int) % 2 := by
          rw [Int.tmod_eq_emod_of_nonneg (Int.natCast_nonneg _), IntKind.wrap_i64]
          omega
        rw [← hp, ← hwt]
        rfl
      · refine take_at (i := 0) (dst := some 24) (v := ?_) rfl rfl (by kernel_rfl) (by kernel_rfl) (by kernel_rfl) (fun _ _ _ h => h) (Or.inl ⟨by rfl, ?_⟩) hHeld ?_
        rotate_left
        · intro w hSw
          (try dsimp only at hSw)
          first | (go_simp; done) | (go_simp; with_reducible rfl) | with_reducible rfl
        try simp only [Act.put, List.setIfInBounds_toArray, List.set_cons_zero, List.set_cons_succ]
        refine take_at (i := 1) (dst := some 25) (v := ?_) rfl rfl (by kernel_rfl) (by kernel_rfl) (by kernel_rfl) (fun _ _ _ h => h) (Or.inl ⟨by rfl, ?_⟩) hHeld ?_
        rotate_left
        · intro w hSw
          (try dsimp only at hSw)
          first | (go_simp; done) | (go_simp; with_reducible rfl) | with_reducible rfl
        try simp only [Act.put, List.setIfInBounds_toArray, List.set_cons_zero, List.set_cons_succ]
        refine take_at (i := 2) (dst := some 26) (v := ?_) rfl rfl (by kernel_rfl) (by kernel_rfl) (by kernel_rfl) (fun _ _ _ h => h) (Or.inl ⟨by rfl, ?_⟩) hHeld ?_
        rotate_left
        · intro w hSw
          (try dsimp only at hSw)
          first | (go_simp; done) | (go_simp; with_reducible rfl) | with_reducible rfl
        try simp only [Act.put, List.setIfInBounds_toArray, List.set_cons_zero, List.set_cons_succ]
        refine take_at (i := 3) (dst := some 27) (v := ?_) rfl rfl (by kernel_rfl) (by kernel_rfl) (by kernel_rfl) (fun _ _ _ h => h) (Or.inl ⟨by rfl, ?_⟩) hHeld ?_
        rotate_left
        · intro w hSw
          (try dsimp only at hSw)
          first | (go_simp; done) | (go_simp; with_reducible rfl) | with_reducible rfl
        try simp only [Act.put, List.setIfInBounds_toArray, List.set_cons_zero, List.set_cons_succ]
        refine take_at (i := 4) (dst := some 28) (v := undef) rfl rfl (by kernel_rfl) (by kernel_rfl) (by kernel_rfl) (fun _ _ _ h => h) (Or.inr ⟨by rfl, rfl⟩) hHeld ?_
        try simp only [Act.put, List.setIfInBounds_toArray, List.set_cons_zero, List.set_cons_succ]
        refine take_at (i := 5) (dst := some 29) (v := undef) rfl rfl (by kernel_rfl) (by kernel_rfl) (by kernel_rfl) (fun _ _ _ h => h) (Or.inr ⟨by rfl, rfl⟩) hHeld ?_
        try simp only [Act.put, List.setIfInBounds_toArray, List.set_cons_zero, List.set_cons_succ]
        refine take_at (i := 6) (dst := some 30) (v := undef) rfl rfl (by kernel_rfl) (by kernel_rfl) (by kernel_rfl) (fun _ _ _ h => h) (Or.inr ⟨by rfl, rfl⟩) hHeld ?_
        try simp only [Act.put, List.setIfInBounds_toArray, List.set_cons_zero, List.set_cons_succ]
        refine take_at (i := 7) (dst := some 31) (v := undef) rfl rfl (by kernel_rfl) (by kernel_rfl) (by kernel_rfl) (fun _ _ _ h => h) (Or.inr ⟨by rfl, rfl⟩) hHeld ?_
        try simp only [Act.put, List.setIfInBounds_toArray, List.set_cons_zero, List.set_cons_succ]
        refine take_at (i := 8) (dst := some 32) (v := undef) rfl rfl (by kernel_rfl) (by kernel_rfl) (by kernel_rfl) (fun _ _ _ h => h) (Or.inr ⟨by rfl, rfl⟩) hHeld ?_
        try simp only [Act.put, List.setIfInBounds_toArray, List.set_cons_zero, List.set_cons_succ]
        refine take_at (i := 9) (dst := some 33) (v := undef) rfl rfl (by kernel_rfl) (by kernel_rfl) (by kernel_rfl) (fun _ _ _ h => h) (Or.inr ⟨by rfl, rfl⟩) hHeld ?_
        try simp only [Act.put, List.setIfInBounds_toArray, List.set_cons_zero, List.set_cons_succ]
        refine take_at (i := 10) (dst := some 34) (v := ?_) rfl rfl (by kernel_rfl) (by kernel_rfl) (by kernel_rfl) (fun _ _ _ h => h) (Or.inl ⟨by rfl, ?_⟩) hHeld ?_
        rotate_left
        · intro w hSw
          (try dsimp only at hSw)
          first | (go_simp; done) | (go_simp; with_reducible rfl) | with_reducible rfl
        try simp only [Act.put, List.setIfInBounds_toArray, List.set_cons_zero, List.set_cons_succ]
        refine wpAnyH_ready (rs := [11]) (by kernel_rfl) (by simp) ?_
        refine AllReadyH.cons rfl (fun K hK => ?_) AllReadyH.nil
        rw [if_pos (by rfl)]
        refine oper_store_blk 30 _ _ rfl (b := w.heap.size) rfl rfl _ rfl rfl (by simp [Value.oneCell']) HX7.out rfl rfl ?_
        refine hK.out _ _ hS9 (fun hHeld => ?_)
        try simp only [Act.put, List.setIfInBounds_toArray, List.set_cons_zero, List.set_cons_succ]
        refine take_at (i := 12) (dst := some 5) (v := ?_) rfl rfl (by kernel_rfl) (by kernel_rfl) (by kernel_rfl) (fun _ _ _ h => h) (Or.inl ⟨by rfl, ?_⟩) hHeld ?_
        rotate_left
        · intro w hSw
          (try dsimp only at hSw)
          first | (go_simp; done) | (go_simp; with_reducible rfl) | with_reducible rfl
        try simp only [Act.put, List.setIfInBounds_toArray, List.set_cons_zero, List.set_cons_succ]
        refine wpAnyH_done (by kernel_rfl) ?_ _
        refine NoPanic.normal ?_
        go_wp2_with fail
        refine bodyPost_ret (results_blk 4 5 30 rfl rfl rfl _ rfl rfl (fun _ => by simp [go_sem, isAgg]) HS9.out) rfl ⟨?_, HB9'.out⟩
        rfl
    refine HSLOT _ rfl ?_
    by_cases h0 : sc = 0
    · left
      refine ⟨h0, ?_⟩
      by_cases hp : sd.serial % 2 = i
      · rw [decide_eq_true (And.intro h0 hp), beq_iff_eq]
        omega
      · rw [decide_eq_false (fun h => hp h.2), beq_eq_false_iff_ne]
        omega
    · right
      exact ⟨by rw [beq_eq_false_iff_ne]; exact h0, decide_eq_false (fun h => h0 h.1)⟩
end
end Go.Proofs.YtaldjmhikebecaaGreat
