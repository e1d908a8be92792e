/- Layer 8 (sector): keep, Bad, Spoil, Fuse. -/
import Derived.Test.YtaldjmhikebecaaGreatLoose
import Derived.Laws.CopyRow
import Derived.Laws.IdiomCopy
namespace Go.Proofs.YtaldjmhikebecaaGreat
open Go Go.RowKit
set_option maxRecDepth 100000
set_option linter.unusedVariables false
attribute [local go_sem] Oper.semAt_some
/-- Bytes laid over a sector. -/
def Dsk.lay (k : Dsk) (i : Nat) (l : List UInt8) : Dsk := { k with fast := k.fast.take (i * k.size) ++ l ++ k.fast.drop (i * k.size + l.length) }
def Dsk.good (k : Dsk) (i : Nat) : Dsk := { k with bad := fun j => if j = i then false else k.bad j }
def Dsk.spoilt (k : Dsk) (i : Nat) : Dsk := { k with bad := fun j => if j = i then true else k.bad j }
def Dsk.drop (k : Dsk) (i : Nat) : Dsk := { k with loose := fun j => if j = i then none else k.loose j }
section
variable {w w' : World} {d fb lb bb c : Nat} {k : Dsk} {X : Nat → Prop}
theorem OnDisk.blocks (h : OnDisk X w d fb lb bb c k) : d ≠ fb ∧ d ≠ lb ∧ d ≠ bb ∧ fb ≠ lb ∧ fb ≠ bb ∧ lb ≠ bb := by
  obtain ⟨D, h1, _⟩ := h.loo
  obtain ⟨E, cb, h3, _⟩ := h.bd
  obtain ⟨es, cl, hm1⟩ := own_map_obj h1
  obtain ⟨es2, cl2, hm2⟩ := own_map_obj h3
  refine ⟨h.ne_df, ?_, ?_, ?_, ?_, h.ne⟩
  · intro e; have := h.blk; rw [e, hm1] at this; cases this
  · intro e; have := h.blk; rw [e, hm2] at this; cases this
  · intro e; have := h.fst; rw [e, hm1] at this; cases this
  · intro e; have := h.fst; rw [e, hm2] at this; cases this
theorem map_nobyte {H : Type} {P : Program} {kt : TypeId} {R : Value → Option (DataW H × List MemPlace)} {b n : Nat} {D : DataW H} (h : w.ownsMap P kt R b n D) : NoByte w b := by
  obtain ⟨es, cl, hm⟩ := own_map_obj h
  exact noByte_other hm rfl
theorem Bs.grown_map {A : Option Addr} {n c' b : Nat} {l : List UInt8} (h : Bs w A n c' l) (hg : w.grownBy w' (some b)) (hn : NoByte w b) : Bs w' A n c' l := by
  refine ⟨h.1, h.2.1, h.2.2.1, fun h0 => ?_⟩
  obtain ⟨ad, e, hc⟩ := h.2.2.2 h0
  refine ⟨ad, e, fun j u hu => hg.cell (hc j u hu) ?_⟩
  intro e2
  obtain ⟨x, hx⟩ : ∃ x, u = .int .u8 x := by
    have := List.mem_of_getElem? hu
    simp only [bytes, List.mem_map] at this
    obtain ⟨y, _, rfl⟩ := this
    exact ⟨_, rfl⟩
  exact hn (ad.add j) (Option.some.inj e2) x (hx ▸ hc j u hu)
theorem Bs.keep' {A : Option Addr} {n c' b : Nat} {l : List UInt8} (h : Bs w A n c' l) (hg : w.grownBy w' (some b)) (hA : ∀ ad, A = some ad → ad.block ≠ b) : Bs w' A n c' l := by
  refine ⟨h.1, h.2.1, h.2.2.1, fun h0 => ?_⟩
  obtain ⟨ad, e, hc⟩ := h.2.2.2 h0
  refine ⟨ad, e, fun j u hu => hg.cell (hc j u hu) ?_⟩
  intro e2
  rw [block_add] at e2
  exact hA ad e (Option.some.inj e2)
theorem OnDisk.more (h : OnDisk X w d fb lb bb c k) (hc : c + 1 < 1099511627776) : OnDisk X w d fb lb bb (c + 1) k := by
  obtain ⟨D, h1, h2⟩ := h.loo
  obtain ⟨E, cb, h3, h4⟩ := h.bd
  exact { h with cnt := hc, loo := ⟨D, h1.mono (Nat.le_succ _), h2⟩, bd := ⟨E, cb, h3, Nat.le_succ_of_le h4.1, h4.2⟩ }
theorem OnDisk.rebad (h : OnDisk X w d fb lb bb c k) {cb : Nat} {E : DataW Value} (hg : w.grownBy w' (some bb)) (hE : w'.ownsMap (H := Value) Tryz.prog 3 unitElem bb cb E) (hcb : cb ≤ c) (b' : Nat → Bool) (hb : ∀ i, i < k.n → Maps.has E (key i) = b' i) : OnDisk X w' d fb lb bb c { k with bad := b' } := by
  obtain ⟨n1, n2, n3, n4, n5, n6⟩ := h.blocks
  obtain ⟨D, h1, h2⟩ := h.loo
  obtain ⟨E0, cb0, h3, _⟩ := h.bd
  have hno := map_nobyte h3
  have l2 := h2.kept (w' := w') fun A n c' l hB _ => hB.grown_map hg hno
  exact { blk := (hg.block _ (blk_lt h.blk) (by simpa using n3)).trans h.blk, fst := (hg.block _ (blk_lt h.fst) (by simpa using n5)).trans h.fst, spm := h.spm, len := h.len, n1 := h.n1, n2 := h.n2, s1 := h.s1, s2 := h.s2, lf := h.lf, cnt := h.cnt, ne := h.ne, xd := h.xd, xf := h.xf, xlt := fun b hb => Nat.lt_of_lt_of_le (h.xlt b hb) hg.size, loo := ⟨D, own_map_block h1 (hg.block _ h1.lt (by simpa using n6)), l2.at_, l2.keys⟩, bd := ⟨E, cb, hE, hcb, hb⟩ }
theorem OnDisk.reloose (h : OnDisk X w d fb lb bb c k) {c2 : Nat} {D : DataW Value} (hg : w.grownBy w' (some lb)) (hD : w'.ownsMap Tryz.prog 3 rawR lb c2 D) (hc : c2 < 1099511627776) (hcc : c ≤ c2) (l' : Nat → Option (List UInt8)) (hl : LooseAt X w' { k with loose := l' } D) : OnDisk X w' d fb lb bb c2 { k with loose := l' } := by
  obtain ⟨n1, n2, n3, n4, n5, n6⟩ := h.blocks
  obtain ⟨E0, cb0, h3, h4⟩ := h.bd
  exact { blk := (hg.block _ (blk_lt h.blk) (by simpa using n2)).trans h.blk, fst := (hg.block _ (blk_lt h.fst) (by simpa using n4)).trans h.fst, spm := h.spm, len := h.len, n1 := h.n1, n2 := h.n2, s1 := h.s1, s2 := h.s2, lf := h.lf, cnt := hc, ne := h.ne, xd := h.xd, xf := h.xf, xlt := fun b hb => Nat.lt_of_lt_of_le (h.xlt b hb) hg.size, loo := ⟨D, hD, hl⟩, bd := ⟨E0, cb0, own_map_block h3 (hg.block _ h3.lt (by simpa using Ne.symm n6)), Nat.le_trans h4.1 hcc, h4.2⟩ }
theorem OnDisk.delLoose (h : OnDisk X w d fb lb bb c k) {D : DataW Value} (hm : w.ownsMap Tryz.prog 3 rawR lb c D) (hl : LooseAt X w k D) (hg : w.grownBy w' (some lb)) {i : Nat} (hD : w'.ownsMap Tryz.prog 3 rawR lb c (D.del (key i))) : OnDisk X w' d fb lb bb c (k.drop i) := by
  refine h.reloose hg hD h.cnt (Nat.le_refl _) _ ⟨fun j hj => ?_, fun kl hkl => ?_⟩
  · by_cases hji : j = i
    · subst hji
      simp only [if_pos]
      exact Maps.has_del_same
    · simp only [if_neg hji]
      have := hl.at_ j hj
      split at this
      · exact (Maps.has_del_other (key_ne hji)).trans this
      · obtain ⟨h1, A, c', h2, h3, h4⟩ := this
        exact ⟨(Maps.has_del_other (key_ne hji)).trans h1, A, c', fun z => (Maps.atKey_del_other (key_ne hji) z).trans (h2 z), h3.grown_map hg (map_nobyte hm), h4⟩
  · by_cases hk : kl = key i
    · rw [hk, Maps.has_del_same] at hkl; cases hkl
    · rw [Maps.has_del_other hk] at hkl
      exact hl.keys kl hkl
theorem OnDisk.delBad (h : OnDisk X w d fb lb bb c k) {E : DataW Value} {cb : Nat} (hm : w.ownsMap (H := Value) Tryz.prog 3 unitElem bb cb E) (hcb : cb ≤ c) (hb : ∀ i, i < k.n → Maps.has E (key i) = k.bad i) (hg : w.grownBy w' (some bb)) {i : Nat} (hE : w'.ownsMap (H := Value) Tryz.prog 3 unitElem bb cb (E.del (key i))) : OnDisk X w' d fb lb bb c (k.good i) := by
  refine h.rebad hg hE hcb _ fun j hj => ?_
  by_cases hji : j = i
  · subst hji
    simp only [if_pos]
    exact Maps.has_del_same
  · simp only [if_neg hji]
    exact (Maps.has_del_other (key_ne hji)).trans (hb j hj)
theorem OnDisk.putBad (h : OnDisk X w d fb lb bb c k) {E : DataW Value} {cb : Nat} (hm : w.ownsMap (H := Value) Tryz.prog 3 unitElem bb cb E) (hcb : cb ≤ c) (hc : c + 1 < 1099511627776) (hb : ∀ i, i < k.n → Maps.has E (key i) = k.bad i) (hg : w.grownBy w' (some bb)) {i : Nat} (hE : w'.ownsMap (H := Value) Tryz.prog 3 unitElem bb (cb + 1) (E.put (key i) (.agg []))) : OnDisk X w' d fb lb bb (c + 1) (k.spoilt i) := by
  refine (h.more hc).rebad hg hE (Nat.succ_le_succ hcb) _ fun j hj => ?_
  by_cases hji : j = i
  · subst hji
    simp only [if_pos]
    exact Maps.has_put_same hm.isMap (key_lit j) _
  · simp only [if_neg hji]
    exact (Maps.has_put_other (key_ne hji) _).trans (hb j hj)
theorem OnDisk.lay_len (h : OnDisk X w d fb lb bb c k) {i : Nat} (hi : i < k.n) {l : List UInt8} (hl : l.length ≤ k.size) : (k.lay i l).fast.length = k.n * k.size ∧ i * k.size + l.length ≤ k.fast.length := by
  have h1 : (i + 1) * k.size ≤ k.n * k.size := Nat.mul_le_mul_right _ hi
  rw [Nat.add_mul, Nat.one_mul] at h1
  have := h.len
  simp only [Dsk.lay, List.length_append, List.length_take, List.length_drop]
  omega
/-- 'copy' over a sector. -/
theorem OnDisk.copy (h : OnDisk X w d fb lb bb c k) {i : Nat} (hi : i < k.n) {A : Option Addr} {m c' : Nat} {l : List UInt8} (hB : Bs w A m c' l) (hm : m ≤ k.size) :
    ∃ w', (∀ ty, (Builtin.copy_ #[51, 51] ty #[.slice (some ⟨fb, i * k.size, none⟩) k.size k.size, .slice A m c']).run Tryz.prog w = .ok (.int .i64 (m : Int)) w') ∧ OnDisk X w' d fb lb bb c (k.lay i l) ∧ w.grownBy w' (some fb) := by
  have hl := hB.len
  obtain ⟨hlen, hfit⟩ := h.lay_len hi (l := l) (by omega)
  have hinf : (Tryz.prog.info? 5).map (·.size) = some 1 := by
    obtain ⟨i, h1, _, h2, _⟩ := info_parts info_u8
    rw [h1]; simp [h2]
  rcases Nat.eq_zero_or_pos m with h0 | h0
  · subst h0
    obtain rfl : l = [] := List.eq_nil_of_length_eq_zero hl
    refine ⟨w, fun ty => run_copy_none w _ _ ty 5 _ _ _ _ _ _ Tryz.underlying51 hinf (by simp), ?_, World.grownBy.refl _ _⟩
    have : k.lay i [] = k := by simp [Dsk.lay]
    rw [this]
    exact h
  · obtain ⟨ad, rfl, hc⟩ := hB.2.2.2 h0
    have hrun := fun ty => run_copy_row (P := Tryz.prog) w 51 51 ty 5 fb (i * k.size) k.size k.size ad m c' (bytes (k.fast ++ List.replicate k.sp 0)).toArray 5 (bytes l) Tryz.underlying51 hinf h.fst (by rw [bytes_length, hl]; exact (Nat.min_eq_left hm).symm) hc (by simp [bytes_length]; omega) (bytes_oneCell l)
    have e : ((bytes (k.fast ++ List.replicate k.sp 0)).toArray.toList.take (i * k.size) ++ bytes l ++ (bytes (k.fast ++ List.replicate k.sp 0)).toArray.toList.drop (i * k.size + (bytes l).length)).toArray = (bytes ((k.lay i l).fast ++ List.replicate k.sp 0)).toArray := by
      rw [List.toList_toArray, ← bytes_take, bytes_length, ← bytes_drop, ← bytes_append, ← bytes_append, List.take_append_of_le_length (by omega), List.drop_append_of_le_length (by omega)]
      simp [Dsk.lay]
    have hg : w.grownBy (w.setRow fb (bytes ((k.lay i l).fast ++ List.replicate k.sp 0)).toArray) (some fb) := ⟨rfl, rfl, rfl, by simp [World.setRow], fun j hj hn => setRow_other w fb j _ (fun e => hn (by rw [e]))⟩
    refine ⟨w.setRow fb (bytes ((k.lay i l).fast ++ List.replicate k.sp 0)).toArray, fun ty => ?_, ?_, hg⟩
    · rw [hrun ty, e, bytes_length, hl]
      rfl
    · obtain ⟨n1, n2, n3, n4, n5, n6⟩ := h.blocks
      obtain ⟨D, h1, h2⟩ := h.loo
      obtain ⟨E0, cb0, h3, h4⟩ := h.bd
      have l2 := h2.kept (w' := w.setRow fb (bytes ((k.lay i l).fast ++ List.replicate k.sp 0)).toArray) fun A n c' l hB hA => hB.keep' hg fun ad e e2 => hA ad e (e2 ▸ h.xf)
      exact { blk := (hg.block _ (blk_lt h.blk) (by simpa using n1)).trans h.blk, fst := setRow_heap w fb _ _ _ _ h.fst, spm := h.spm, len := hlen, n1 := h.n1, n2 := h.n2, s1 := h.s1, s2 := h.s2, lf := h.lf, cnt := h.cnt, ne := h.ne, xd := h.xd, xf := h.xf, xlt := fun b hb => Nat.lt_of_lt_of_le (h.xlt b hb) hg.size, loo := ⟨D, own_map_block h1 (hg.block _ h1.lt (by simpa using Ne.symm n4)), l2.at_, l2.keys⟩, bd := ⟨E0, cb0, own_map_block h3 (hg.block _ h3.lt (by simpa using Ne.symm n5)), h4⟩ }
end
end Go.Proofs.YtaldjmhikebecaaGreat
