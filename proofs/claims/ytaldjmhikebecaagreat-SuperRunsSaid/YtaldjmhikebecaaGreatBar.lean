/- Layer 8 (sector): Barrier. -/
import Derived.Test.YtaldjmhikebecaaGreatAlike
import Derived.Maps.RangeWalk
namespace Go.Proofs.YtaldjmhikebecaaGreat
open Go Go.RowKit
set_option maxRecDepth 100000
set_option linter.unusedVariables false
attribute [local go_sem] Oper.semAt_some
/-- A barrier under way: what has been kept so far. -/
structure Going (k k2 : Dsk) (left : Lit → Bool) : Prop where
  n : k2.n = k.n
  size : k2.size = k.size
  set : k2.set = k.set
  lft : k2.left = k.left
  sp : k2.sp = k.sp
  loose : k2.loose = k.loose
  len : k2.fast.length = k.n * k.size
  same : ∀ i, i < k.n → (k.loose i = none ∨ left (key i) = true) → k2.at_ i = k.at_ i ∧ k2.bad i = k.bad i
  kept : ∀ i, i < k.n → ∀ l, k.loose i = some l → left (key i) = false → k2.at_ i = l ∧ k2.bad i = false
theorem sameKey_key (i j : Nat) : (key j).sameKey (key i) = decide (j = i) := by
  by_cases h : j = i
  · subst h
    rw [WideAt.sameKey_self (key_lit j)]
    simp
  · rw [decide_eq_false h]
    have : (key j).sameKey (key i) ≠ true := by
      intro e
      simp only [key, Lit.sameKey] at e
      simp at e
      omega
    exact Bool.eq_false_iff.2 this
theorem Going.step {k k2 : Dsk} {left : Lit → Bool} (h : Going k k2 left) {i : Nat} (hi : i < k.n) {l : List UInt8} (hlo : k.loose i = some l) (hl : l.length = k.size) : Going k (k2.keep i l) (fun z => left z && !z.sameKey (key i)) := by
  have hlen : k2.fast.length = k2.n * k2.size := by rw [h.n, h.size]; exact h.len
  have hat : ∀ j, j < k.n → (k2.keep i l).at_ j = if j = i then l else k2.at_ j := fun j hj => by
    have := at_lay hlen (by rw [h.n]; exact hi) (j := j) (by rw [h.n]; exact hj) (l := l) (by rw [h.size]; omega)
    rw [show (k2.keep i l).at_ j = (k2.lay i l).at_ j from rfl, this]
    split
    · rw [List.drop_of_length_le (by rw [at_len hlen (by rw [h.n]; exact hi), h.size]; omega), List.append_nil]
    · rfl
  have hbad : ∀ j, (k2.keep i l).bad j = if j = i then false else k2.bad j := fun j => rfl
  refine ⟨h.n, h.size, h.set, h.lft, h.sp, h.loose, ?_, fun j hj hp => ?_, fun j hj l2 hl2 hp => ?_⟩
  · rw [← h.n, ← h.size]
    exact lay_len hlen (by rw [h.n]; exact hi) (by rw [h.size]; omega)
  · rw [sameKey_key] at hp
    by_cases hji : j = i
    · subst hji
      rw [hlo] at hp
      simp at hp
    · rw [hat j hj, hbad, if_neg hji, if_neg hji]
      refine h.same j hj (hp.imp id fun e => ?_)
      simp only [Bool.and_eq_true] at e
      exact e.1
  · rw [sameKey_key] at hp
    rw [hat j hj, hbad]
    by_cases hji : j = i
    · subst hji
      rw [hlo] at hl2
      injection hl2 with e
      rw [if_pos rfl, if_pos rfl]
      exact ⟨e, rfl⟩
    · rw [if_neg hji, if_neg hji]
      refine h.kept j hj l2 hl2 ?_
      simpa [hji] using hp
theorem Going.firm {k k2 : Dsk} {left : Lit → Bool} (h : Going k k2 left) (hl : ∀ kl, left kl = false) : Firm k (fun _ => True) { k2 with loose := fun _ => none } := by
  refine ⟨h.n, h.size, h.set, h.lft, h.sp, h.len, fun i hi _ => ⟨rfl, ?_⟩, fun i hi hp => absurd trivial hp⟩
  cases hlo : k.loose i with
  | none => exact h.same i hi (.inl hlo)
  | some l => exact h.kept i hi l hlo (hl _)
section
variable {w w' : World} {d fb lb bb c : Nat} {k : Dsk} {X : Nat → Prop}
theorem OnDisk.loose_len (h : OnDisk X w d fb lb bb c k) : ∀ i, i < k.n → ∀ l, k.loose i = some l → l.length = k.size := by
  intro i hi l hl
  obtain ⟨D, h1, h2⟩ := h.loo
  have := h2.at_ i hi
  rw [hl] at this
  obtain ⟨_, A, c', _, hB, _⟩ := this
  exact hB.len
theorem ranges_touch {S : Nat → Prop} {b r n cnt : Nat} {D : DataW Value} {left : Lit → Bool} (h : w.ranges Tryz.prog 3 rawR b r n D left cnt) (t : Touch S w w') (hb : ¬ S b) (hr : ¬ S r) : w'.ranges Tryz.prog 3 rawR b r n D left cnt := by
  have h1 := h.owns.lt
  have h2 := h.lt
  obtain ⟨es, clock, since, seen, c0, hb', F, hs, hD, hr', rest⟩ := h
  exact ⟨es, clock, since, seen, c0, (t.block b h1 hb).trans hb', F, hs, hD, (t.block r h2 hr).trans hr', rest⟩
theorem ranges_nobyte {b r n cnt : Nat} {D : DataW Value} {left : Lit → Bool} (h : w.ranges Tryz.prog 3 rawR b r n D left cnt) : NoByte w r := by
  obtain ⟨es, clock, since, seen, c0, hb', F, hs, hD, hr', rest⟩ := h
  exact noByte_other hr' rfl
theorem Touch.trans_new {S T : Nat → Prop} {a b c : World} (h : Touch S a b) (k : Touch T b c) (hn : ∀ i, T i → S i ∨ a.heap.size ≤ i) : Touch S a c :=
  ⟨k.os.trans h.os, k.tape.trans h.tape, k.output.trans h.output, Nat.le_trans h.size k.size, fun i hi hs => (k.block i (Nat.lt_of_lt_of_le hi h.size) fun ht => (hn i ht).elim hs (by omega)).trans (h.block i hi hs)⟩
theorem LooseAt.touch {S : Nat → Prop} {D : DataW Value} (h : LooseAt X w k D) (t : Touch S w w') (hs : ∀ i, S i → NoByte w i ∨ X i) : LooseAt X w' k D := by
  refine h.kept ?_
  intro A n c l hB hA
  refine ⟨hB.1, hB.2.1, hB.2.2.1, fun h0 => ?_⟩
  obtain ⟨ad, e, hc⟩ := hB.2.2.2 h0
  refine ⟨ad, e, fun j u hu => ?_⟩
  have hcell := hc j u hu
  refine t.cell hcell ?_
  rw [block_add]
  intro hS
  obtain ⟨x, hx⟩ : ∃ x, u = .int .u8 x := by
    have := List.mem_of_getElem? hu
    simp only [bytes, List.mem_map] at this
    obtain ⟨y, _, rfl⟩ := this
    exact ⟨_, rfl⟩
  rcases hs _ hS with h5 | h5
  · exact h5 (ad.add j) (block_add _ _) x (hx ▸ hcell)
  · exact hA ad e h5
theorem OnDisk.grown0 (h : OnDisk X w d fb lb bb c k) (hg : w.grownBy w' none) : OnDisk X w' d fb lb bb c k :=
  h.kept (S := fun _ => False) (Touch.of_grown hg (fun _ h => by cases h)) (fun h => h) (fun h => h) (fun h => h) (fun h => h) (fun _ h => h.elim)
theorem going_start (hlen : k.fast.length = k.n * k.size) {D : DataW Value} (hl : LooseAt X w k D) : Going k k (Maps.has D) := by
  refine ⟨rfl, rfl, rfl, rfl, rfl, rfl, hlen, fun _ _ _ => ⟨rfl, rfl⟩, fun i hi l hlo hh => ?_⟩
  have := hl.at_ i hi
  rw [hlo] at this
  rw [this.1] at hh
  cases hh
set_option maxHeartbeats 4000000 in
theorem Barrier_ok (h : OnDisk X w d fb lb bb c k) (hon : k.on) : Calls Tryz.prog 13 #[.pointer (some ⟨d, 0, none⟩)] w fun e w' =>
    e = .returned (.int .i64 0) ∧ OnDisk X w' d fb lb bb c k.less.firm ∧ Touch (fun b => b = d ∨ b = fb ∨ b = lb ∨ b = bb) w w' := by
  have HMADE := Lib.hid (disk_made h)
  have HP := Lib.hid (power_on h hon)
  have HD1 := Lib.hid h.less
  have c3 : (w.setCell ⟨d, 6, none⟩ (.int .i64 ((k.left - 1 : Nat) : Int))).cell? ⟨d, 3, none⟩ = some (.map (some lb)) := h.less.cell 3
  have t1 : Touch (fun b => b = d ∨ b = fb ∨ b = lb ∨ b = bb) w (w.setCell ⟨d, 6, none⟩ (.int .i64 ((k.left - 1 : Nat) : Int))) := Touch.of_set _ _ (.inl rfl)
  have HT1 := Lib.hid t1
  have hbl := Lib.hid h.blocks
  have hlts := h.less.lts
  have HN := Lib.hid (show k.less.n = k.n from rfl)
  have hn2 := h.n2
  have hsz : (w.setCell ⟨d, 6, none⟩ (.int .i64 ((k.left - 1 : Nat) : Int))).heap.size = w.heap.size := by simp [World.setCell]
  clear h t1
  generalize k.less = k0 at HD1 HN ⊢
  generalize hW1 : w.setCell ⟨d, 6, none⟩ (.int .i64 ((k.left - 1 : Nat) : Int)) = W1 at HD1 c3 HT1 HP hlts hsz
  obtain ⟨D, hm, hl⟩ := HD1.out.loo
  have HM := Lib.hid hm
  have HL := Lib.hid hl
  have HSZ := Lib.hid hsz
  clear hm hl hW1 hsz
  go_enter Tryz.func13, Tryz.ntmps13
  go_wp2_with (first
    | (go_at_call 40; go_must (refine HMADE.out.mono ?_; rintro e wx ⟨rfl, hwx⟩; obtain rfl := hwx.symm))
    | (go_at_call 41; go_must (refine HP.out.mono ?_; rintro e wx ⟨rfl, hwx⟩; obtain rfl := hwx.symm))
    | (at_range; go_must (refine wpList_range_own _ rfl _ 77 rfl 3 51 int_law Tryz.underlying77 rawR lb c D rfl HM.out ?_; intro w0 hrg0 hg0 hs0; have HRG0 := Lib.hid hrg0; have HG0 := Lib.hid hg0; clear hrg0 hg0)))
  go_frame
  go_loopw [4] (fun _ wr => ∃ (left : Lit → Bool) (cnt : Nat) (k2 : Dsk), Hid (wr.ranges Tryz.prog 3 rawR lb W1.heap.size c D left cnt) ∧ Hid (∀ kl, left kl = true → Maps.has D kl = true) ∧ Hid (Going k0 k2 left) ∧ Hid (OnDisk X wr d fb lb bb c k2) ∧ Hid (LooseAt X wr k0 D) ∧ Hid (Touch (fun b => b = d ∨ b = fb ∨ b = lb ∨ b = bb) w wr))
    (fun _ wr => wr.rangeLeft lb W1.heap.size)
  case atStart => exact ⟨_, _, k0, HRG0, Lib.hid (fun _ h => h), Lib.hid (going_start HD1.out.len HL.out), Lib.hid (HD1.out.grown0 HG0.out), Lib.hid (HL.out.kept fun A n c l hB _ => hB.keep fun a v hv => HG0.out.cell hv (by simp)), Lib.hid (HT1.out.trans (Touch.of_grown HG0.out (fun _ h => by cases h)))⟩
  case round =>
    obtain ⟨left, cnt, k2, hrg, hlf, hgo, hd, hl, ht⟩ := hrel
    have r3 : wr.cell? ⟨d, 3, none⟩ = some (.map (some lb)) := hd.out.cell 3
    have hmr := hrg.out.owns
    obtain ⟨w9, hclr, ho9, hg9⟩ := clear_own hmr Tryz.underlying77
    have HO9 := Lib.hid ho9
    have HG9 := Lib.hid hg9
    clear hmr ho9 hg9
    go_wp2_with (at_next; go_must (refine wpList_next_ranges _ rfl _ rfl 3 int_law rawR (Value.int .i64) id (fun key kl hkey => by obtain ⟨x, rfl, _⟩ := Maps.keyOf_int_inv Tryz.underlying3 hkey; exact ⟨x, rfl⟩) (fun v y _ => ⟨v, rfl⟩) lb W1.heap.size c D left cnt rfl hrg.out ?_ ?_))
    · intro hc0 hl0
      have HL0 := Lib.hid hl0
      clear hc0 hl0
      go_wp2
      go_ret
      have h1 : OnDisk X w9 d fb lb bb c { k2 with loose := fun _ => none } := hd.out.reloose HG9.out (HO9.out.mono (Nat.zero_le _)) hd.out.cnt (Nat.le_refl _) _ ⟨fun i _ => rfl, fun kl hk => by cases hk⟩
      exact ⟨rfl, h1.alike (firm_alike HD1.out.len HD1.out.loose_len (fun _ _ => trivial) (hgo.out.firm HL0.out)), ht.out.trans (Touch.of_grown HG9.out (fun j hj => .inr (.inr (.inl (Option.some.inj hj).symm))))⟩
    · intro x cc kl y ys w1 cnt1 hkey hlk hv hat hrg1 hlt hg1 hs1 hen
      obtain ⟨i, hi, hki⟩ := hl.out.keys kl (hlf.out kl hlk)
      subst hki
      obtain ⟨x', e1, e2, _⟩ := Maps.keyOf_int_inv Tryz.underlying3 hkey
      injection e1 with _ e1
      have hx : x = (i : Int) := by
        rw [e1]
        simp only [key, Lit.int.injEq, true_and] at e2
        exact e2.symm
      subst hx
      clear e1 e2 hkey hat
      have hli := hl.out.at_ i hi
      cases hlo : k0.loose i with
      | none =>
        rw [hlo] at hli
        have := hlf.out _ hlk
        rw [hli] at this
        cases this
      | some l =>
        rw [hlo] at hli
        obtain ⟨_, A, c', _, hB, hA⟩ := hli
        have hll := hB.len
        have hnb := ranges_nobyte hrg.out
        have hrlt := hlts
        have t1 : Touch (· = W1.heap.size) wr w1 := Touch.of_grown hg1 (fun j hj => (Option.some.inj hj).symm)
        have hd1 : OnDisk X w1 d fb lb bb c k2 := hd.out.kept t1 (by omega) (by omega) (by omega) (by omega) (fun j hj => .inl (by subst hj; exact hnb))
        have hl1 : LooseAt X w1 k0 D := hl.out.kept fun A n c' l hB hA => hB.grown_map hg1 hnb
        have HK := Lib.hid (keep_ok hd1 i (by rw [hgo.out.n]; exact hi) l (by rw [hgo.out.loose]; exact hlo))
        have HRG1 := Lib.hid hrg1
        have HL1 := Lib.hid hl1
        have HTT := Lib.hid t1
        have HNB := Lib.hid (show NoByte w1 bb by obtain ⟨E, cb, h3, _⟩ := hd1.bd; exact map_nobyte h3)
        have HI := Lib.hid hi
        have HLK := Lib.hid hlk
        have HLO := Lib.hid hlo
        have HLT := Lib.hid hlt
        have HLL := Lib.hid hll
        clear hB hA hnb hd1 hl1 hrg1 t1 hg1 hs1 hlk hv hlo hlt hi hll
        go_wp2_with (first | (go_at_call 42; go_must (refine HK.out.mono ?_; rintro e wx ⟨⟨v, rfl⟩, hdx, htx⟩; have HDX := Lib.hid hdx; have HTX := Lib.hid htx; clear hdx htx)))
        have hrx := ranges_touch HRG1.out HTX.out (by have := hbl.out; omega) (by omega)
        go_roundw
        case rel =>
          refine ⟨_, cnt1, _, Lib.hid hrx, Lib.hid (fun kl h => hlf.out kl ?_), Lib.hid (hgo.out.step HI.out HLO.out HLL.out), HDX, Lib.hid ?_, Lib.hid ((ht.out.trans_new HTT.out (fun j hj => .inr (by have := HSZ.out; omega))).trans (HTX.out.mono fun j _ hj => by rcases hj with rfl | rfl <;> simp))⟩
          · simp only [Bool.and_eq_true] at h
            exact h.1
          · refine HL1.out.touch HTX.out fun j hj => ?_
            rcases hj with rfl | rfl
            · exact .inr hd.out.xf
            ·
              exact .inl HNB.out
        case measure => rw [hrx.left_eq, hrg.out.left_eq]; exact HLT.out
end
end Go.Proofs.YtaldjmhikebecaaGreat
