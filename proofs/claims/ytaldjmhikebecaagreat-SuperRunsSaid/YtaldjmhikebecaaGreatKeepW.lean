/- Layer 8 (sector): the walks of keep, Bad, Spoil, Fuse. -/
import Derived.Test.YtaldjmhikebecaaGreatKeep
namespace Go.Proofs.YtaldjmhikebecaaGreat
open Go Go.RowKit
set_option maxRecDepth 100000
set_option linter.unusedVariables false
attribute [local go_sem] Oper.semAt_some
def Dsk.keep (k : Dsk) (i : Nat) (l : List UInt8) : Dsk := (k.lay i l).good i
section
variable {w w' : World} {d fb lb bb c : Nat} {k : Dsk} {X : Nat → Prop}
theorem look_raw {W : World} {n : Nat} {D : DataW Value} (h : W.ownsMap Tryz.prog 3 rawR lb n D) {q : Nat} (hq : q ≤ 9223372036854775807) {v : Value} (hv : D.atKey (key q) (.held (.slice none 0 0)) = .held v) :
    (Instr.lookup 77 (.map (some lb)) (.int .i64 (q : Int)) false).run Tryz.prog W = .ok v W := by
  obtain ⟨v', ps, hr, hR⟩ := h.lookup int_law Tryz.underlying77 (zero_bytes W) (zd := .held (.slice none 0 0)) (zp := []) rfl (key_of q hq)
  simp only [rawR, Option.some.injEq, Prod.mk.injEq, hv, DataW.held.injEq] at hR
  rw [hR.1] at hr
  exact hr
set_option maxHeartbeats 2000000 in
theorem keep_ok (h : OnDisk X w d fb lb bb c k) (i : Nat) (hi : i < k.n) (l : List UInt8) (hlo : k.loose i = some l) : Calls Tryz.prog 42 #[.pointer (some ⟨d, 0, none⟩), .int .i64 (i : Int)] w fun e w' =>
    (∃ v, e = .returned v) ∧ OnDisk X w' d fb lb bb c (k.keep i l) ∧ Touch (fun b => b = fb ∨ b = bb) w w' := by
  have hn2 := h.n2
  obtain ⟨D, hm, hl⟩ := h.loo
  have hli := hl.at_ i hi
  rw [hlo] at hli
  obtain ⟨_, A, c', hat, hbs, _⟩ := hli
  have c3 : w.cell? ⟨d, 3, none⟩ = some (.map (some lb)) := h.cell 3
  have HLK := Lib.hid (fun (W : World) (hb : Below w.heap.size w W) => look_raw (own_map_block hm (hb.block _ hm.lt)) (by omega) (hat (.held (.slice none 0 0))))
  have hlk0 := HLK.out w.drew ((Below.refl _ w).drew)
  have HD := Lib.hid h
  have HBS := Lib.hid hbs
  have hkey := Lib.hid (key_of i (by omega))
  clear hm hl h hbs hat hlo
  go_enter Tryz.func42, Tryz.ntmps42
  go_wp2
  go_region_with (go_at_call 48; go_must (refine (at_ok (HD.out.below ((Below.refl _ w).drew)) i hi).mono ?_; rintro e w1 ⟨rfl, hb⟩; have hbw : Below w.heap.size w w1 := (Below.refl _ w).drew.trans hb; have hlk1 := HLK.out w1 hbw; have c31 := cell_keep hbw c3; obtain ⟨w2, hrun, hd2, hg2⟩ := (HD.out.below hbw).copy hi (HBS.out.below hbw) (Nat.le_refl _); have HD2 := Lib.hid hd2; have HG2 := Lib.hid hg2; have HBW := Lib.hid hbw; obtain ⟨E, cb, hmb, hcb, hbb⟩ := hd2.bd; have HMB := Lib.hid hmb; have HCB := Lib.hid hcb; have HBB := Lib.hid hbb; have c4 : w2.cell? ⟨d, 4, none⟩ = some (.map (some bb)) := HD2.out.cell 4; clear hb hbw hd2 hg2 hmb hcb hbb))
  all_goals
    go_wp2_with (at_delete; go_must (refine wpList_delete_own _ rfl _ _ 78 3 rfl 91 int_law Tryz.underlying78 _ bb cb E rfl HMB.out _ (key i) rfl hkey.out ?_; intro w3 hE ht; have HE := Lib.hid hE; have HT := Lib.hid ht; clear hE ht))
    go_end0
    refine ⟨⟨_, rfl⟩, HD2.out.delBad HMB.out HCB.out HBB.out HT.out.grown HE.out, ?_⟩
    exact ((Touch.of_below HBW.out).trans (Touch.of_grown HG2.out (fun j hj => .inl (Option.some.inj hj).symm))).trans (Touch.of_grown HT.out.grown (fun j hj => .inr (Option.some.inj hj).symm))
theorem LooseAt.fields {k' : Dsk} {D : DataW Value} (h : LooseAt X w k D) (hn : k'.n = k.n) (hs : k'.size = k.size) (hl : k'.loose = k.loose) : LooseAt X w k' D :=
  ⟨fun i hi => by have := h.at_ i (hn ▸ hi); rw [hl, hs]; exact this, fun kl hk => by rw [hn]; exact h.keys kl hk⟩
set_option maxHeartbeats 1000000 in
theorem Bad_ok (h : OnDisk X w d fb lb bb c k) (i : Nat) (hi : i < k.n) (hc : c + 1 < 1099511627776) : Calls Tryz.prog 24 #[.pointer (some ⟨d, 0, none⟩), .int .i64 (i : Int)] w fun e w' =>
    e = .returned (.int .i64 0) ∧ OnDisk X w' d fb lb bb (c + 1) ((k.spoilt i).drop i) ∧ Touch (fun b => b = lb ∨ b = bb) w w' := by
  have hn2 := h.n2
  have HMADE := Lib.hid (disk_made h)
  obtain ⟨D, hmd, hla⟩ := h.loo
  obtain ⟨E, cb, hmb, hcb, hbb⟩ := h.bd
  have c0 : w.cell? ⟨d, 0, none⟩ = some (.int .i64 (k.n : Int)) := h.cell 0
  have c4 : w.cell? ⟨d, 4, none⟩ = some (.map (some bb)) := h.cell 4
  have HD := Lib.hid h
  have HMD := Lib.hid hmd
  have HLA := Lib.hid hla
  have HMB := Lib.hid hmb
  have HCB := Lib.hid hcb
  have HBB := Lib.hid hbb
  have HC := Lib.hid hc
  have hkey := Lib.hid (key_of i (by omega))
  have k1 : ¬ (i : Int) < 0 := by omega
  have k2 : ¬ (k.n : Int) ≤ (i : Int) := by omega
  clear hmd hla h hmb hcb hbb hc
  go_enter Tryz.func24, Tryz.ntmps24
  go_wp2_with (first
    | (go_at_call 40; go_must (refine HMADE.out.mono ?_; rintro e wx ⟨rfl, hwx⟩; obtain rfl := hwx.symm))
    | (at_mapUpdate; go_must (refine wpList_mapUpdate_own _ rfl _ _ _ 78 rfl 3 91 int_law Tryz.underlying78 unitElem bb cb E rfl HMB.out (by have := HCB.out; have := HC.out; unfold maxLen; omega) _ _ (key i) rfl rfl hkey.out (.agg []) [] unitElem_mk ?_; intro w3 hE hg; have HD3 := Lib.hid (HD.out.putBad HMB.out HCB.out HC.out HBB.out hg hE); have c33 : w3.cell? ⟨d, 3, none⟩ = some (.map (some lb)) := HD3.out.cell 3; have HT3 := Lib.hid hg; have HMD3 := Lib.hid (own_map_block HMD.out (hg.block lb HMD.out.lt (by have := HD.out.blocks.2.2.2.2.2; simpa using this))); have HLA3 := Lib.hid (HLA.out.kept (w' := w3) fun A n c' l hB _ => hB.grown_map hg (map_nobyte HMB.out)); clear hE hg))
    | (at_delete; go_must (refine wpList_delete_own _ rfl _ _ 77 3 rfl 51 int_law Tryz.underlying77 _ lb c D rfl HMD3.out _ (key i) rfl hkey.out ?_; intro w4 hD4 ht4; have HD4 := Lib.hid hD4; have HT4 := Lib.hid ht4.grown; clear hD4 ht4)))
  go_ret
  refine ⟨rfl, HD3.out.delLoose (HMD3.out.mono (Nat.le_succ _)) (HLA3.out.fields rfl rfl rfl) HT4.out (HD4.out.mono (Nat.le_succ _)), ?_⟩
  exact (Touch.of_grown HT3.out (fun j hj => .inr (Option.some.inj hj).symm)).trans (Touch.of_grown HT4.out (fun j hj => .inl (Option.some.inj hj).symm))
set_option maxHeartbeats 1000000 in
theorem Bad_range (h : OnDisk X w d fb lb bb c k) (i : Int) (hi : ¬ (0 ≤ i ∧ i < k.n)) : Calls Tryz.prog 24 #[.pointer (some ⟨d, 0, none⟩), .int .i64 i] w fun e w' => e = .returned (.int .i64 5) ∧ w' = w := by
  have HMADE := Lib.hid (disk_made h)
  have c0 : w.cell? ⟨d, 0, none⟩ = some (.int .i64 (k.n : Int)) := h.cell 0
  clear h
  rcases Int.lt_or_le i 0 with h0 | h0
  · clear hi
    go_enter Tryz.func24, Tryz.ntmps24
    go_wp2_with (go_at_call 40; go_must (refine HMADE.out.mono ?_; rintro e wx ⟨rfl, hwx⟩; obtain rfl := hwx.symm))
    go_ret
    exact ⟨rfl, rfl⟩
  · have h1 : ¬ i < 0 := by omega
    have h2 : (k.n : Int) ≤ i := by omega
    clear hi h0
    go_enter Tryz.func24, Tryz.ntmps24
    go_wp2_with (go_at_call 40; go_must (refine HMADE.out.mono ?_; rintro e wx ⟨rfl, hwx⟩; obtain rfl := hwx.symm))
    go_ret
    exact ⟨rfl, rfl⟩
set_option maxHeartbeats 1000000 in
theorem Spoil_ok (h : OnDisk X w d fb lb bb c k) (i : Nat) (hi : i < k.n) (A : Option Addr) (m c' : Nat) (l : List UInt8) (hB : Bs w A m c' l) (hm : m ≤ k.size) : Calls Tryz.prog 22 #[.pointer (some ⟨d, 0, none⟩), .int .i64 (i : Int), .slice A m c'] w fun e w' =>
    e = .returned (.int .i64 0) ∧ OnDisk X w' d fb lb bb c (((k.lay i l).good i).drop i) ∧ Touch (fun b => b = fb ∨ b = lb ∨ b = bb) w w' := by
  have hn2 := h.n2
  have HMADE := Lib.hid (disk_made h)
  obtain ⟨D, hmd, hla⟩ := h.loo
  have c0 : w.cell? ⟨d, 0, none⟩ = some (.int .i64 (k.n : Int)) := h.cell 0
  have c1 : w.cell? ⟨d, 1, none⟩ = some (.int .i64 (k.size : Int)) := h.cell 1
  have HD := Lib.hid h
  have HBS := Lib.hid hB
  have HMD := Lib.hid hmd
  have HLA := Lib.hid hla
  have hkey := Lib.hid (key_of i (by omega))
  have k1 : ¬ (i : Int) < 0 := by omega
  have k2 : ¬ (k.n : Int) ≤ (i : Int) := by omega
  have k3 : ¬ (k.size : Int) < (m : Int) := by omega
  clear hmd hla h hB
  have tok1 : True := trivial
  go_enter Tryz.func22, Tryz.ntmps22
  go_wp2_with (first
    | (go_at_call 40; go_must (refine HMADE.out.mono ?_; rintro e wx ⟨rfl, hwx⟩; obtain rfl := hwx.symm))
    | (go_at_call 48; go_must (refine (at_ok HD.out i hi).mono ?_; rintro e w1 ⟨rfl, hb⟩; obtain ⟨w2, hrun, hd2, hg2⟩ := (HD.out.below hb).copy hi (HBS.out.below hb) hm; have HD2 := Lib.hid hd2; have HG2 := Lib.hid hg2; have HBW := Lib.hid hb; obtain ⟨E, cb, hmb, hcb, hbb⟩ := hd2.bd; have HMB := Lib.hid hmb; have HCB := Lib.hid hcb; have HBB := Lib.hid hbb; have HMD2 := Lib.hid (own_map_block (own_map_block HMD.out (hb.block lb HMD.out.lt)) (hg2.block lb (Nat.lt_of_lt_of_le HMD.out.lt hb.size) (by have := HD.out.blocks.2.2.2.1; simpa using Ne.symm this))); have HLA2 := Lib.hid (((HLA.out.kept (w' := w1) fun A n c' l hB _ => hB.below hb).kept (w' := w2) fun A n c' l hB hA => hB.keep' hg2 fun ad e e2 => hA ad e (e2 ▸ HD.out.xf))); have c4 : w2.cell? ⟨d, 4, none⟩ = some (.map (some bb)) := HD2.out.cell 4; clear hb hd2 hg2 hmb hcb hbb))
    | (at_delete; have _t := tok1; clear tok1; go_must (clear _t; refine wpList_delete_own _ rfl _ _ 78 3 rfl 91 int_law Tryz.underlying78 _ bb cb E rfl HMB.out _ (key i) rfl hkey.out ?_; intro w3 hE ht; have HD3 := Lib.hid (HD2.out.delBad HMB.out HCB.out HBB.out ht.grown hE); have c33 : w3.cell? ⟨d, 3, none⟩ = some (.map (some lb)) := HD3.out.cell 3; have HT3 := Lib.hid ht.grown; have HMD3 := Lib.hid (own_map_block HMD2.out (ht.grown.block lb HMD2.out.lt (by have := HD2.out.blocks.2.2.2.2.2; simpa using this))); have HLA3 := Lib.hid (HLA2.out.kept (w' := w3) fun A n c' l hB _ => hB.grown_map ht.grown (map_nobyte HMB.out)); clear hE ht))
    | (at_delete; go_must (refine wpList_delete_own _ rfl _ _ 77 3 rfl 51 int_law Tryz.underlying77 _ lb c D rfl HMD3.out _ (key i) rfl hkey.out ?_; intro w4 hD4 ht4; have HD4 := Lib.hid hD4; have HT4 := Lib.hid ht4.grown; clear hD4 ht4)))
  go_ret
  refine ⟨rfl, HD3.out.delLoose HMD3.out (HLA3.out.fields rfl rfl rfl) HT4.out HD4.out, ?_⟩
  exact (((Touch.of_below HBW.out).trans (Touch.of_grown HG2.out (fun j hj => .inl (Option.some.inj hj).symm))).trans (Touch.of_grown HT3.out (fun j hj => .inr (.inr (Option.some.inj hj).symm)))).trans (Touch.of_grown HT4.out (fun j hj => .inr (.inl (Option.some.inj hj).symm)))
end
end Go.Proofs.YtaldjmhikebecaaGreat
