/- SuperSpoilt: its walk. -/
import Derived.Test.YtaldjmhikebecaaBack
import Derived.Laws.BitsAllLaws
namespace Go.Proofs.Ytaldjmhikebecaa
open Go Go.RowKit
set_option maxRecDepth 100000
set_option linter.unusedVariables false
attribute [local go_sem] Oper.semAt_some
set_option maxHeartbeats 1000000 in
theorem SuperSpoilt_bad (s : Sup) (a x : Nat) (w : World) (hok : ¬ s.ok) : Calls Try.prog 5 #[.agg s.cells, .int .u8 (a : Int), .int .u8 (x : Int)] w (RetTrue w) := by
  have HX := Lib.hid (blk_new w (.cells s.cells 25))
  have HB1 := Lib.hid ((Below.refl _ w).alloc (Nat.le_refl _) (.cells s.cells 25))
  have HENC := Lib.hid (fun (W : World) => Encode_bad s W hok)
  have HCHK := Lib.hid (fun (W : World) => show Calls Try.prog 17 #[.agg s.cells] W (RetI W 90) from by have := RCheck_any s W; rw [show chk s = 90 from if_neg hok] at this; exact this)
  have hcells := Lib.hid (show s.cells = #[.int .u64 s.serial, .int .i64 s.epoch, .int .i64 s.view, .int .i64 s.normal, .int .i64 s.top, .int .i64 s.base, .int .i64 s.area, .int .i64 s.start, .int .u32 s.chain] from rfl)
  rw [hcells.out] at HX HB1 HENC HCHK ⊢
  have tok1 : True := trivial
  go_enter Try.func5, Try.ntmps5
  go_wp2_with (first
    | (go_at_call 18; go_must (refine (awake_true _).mono ?_; rintro e w1 ⟨rfl, hb⟩; have HB2 := Lib.hid (HB1.out.trans (hb.mono HB1.out.size)); have HX2 := Lib.hid (blk_below HX.out hb); clear hb))
    | (refine wpList_load_blk rfl 25 _ rfl (b := w.heap.size) rfl _ rfl rfl (fun _ => by simp [go_sem, isAgg]) HX2.out ?_)
    | (refine wpList_load_blk rfl 25 _ rfl (b := w.heap.size) rfl _ rfl rfl (fun _ => by simp [go_sem, isAgg]) HX3.out ?_)
    | (go_at_call 12; go_must (refine (HENC.out _).mono ?_; rintro e w2 ⟨rfl, hb⟩; have HB3 := Lib.hid (HB2.out.trans (hb.mono HB2.out.size)); have HX3 := Lib.hid (blk_below HX2.out hb); clear hb))
    | (go_at_call 17; go_must (refine (HCHK.out _).mono ?_; rintro e w3 ⟨rfl, hb⟩; have HB4 := Lib.hid (HB3.out.trans (hb.mono HB3.out.size)); clear hb)))
  go_ret
  exact ⟨rfl, HB4.out⟩
set_option maxHeartbeats 1000000 in
theorem SuperSpoilt_same (s : Sup) (a : Nat) (w : World) (hf : s.fit) (hok : s.ok) : Calls Try.prog 5 #[.agg s.cells, .int .u8 (a : Int), .int .u8 0] w (RetTrue w) := by
  have HX := Lib.hid (blk_new w (.cells s.cells 25))
  have HB1 := Lib.hid ((Below.refl _ w).alloc (Nat.le_refl _) (.cells s.cells 25))
  have HENC := Lib.hid (fun (W : World) => Encode_ok s W hf hok)
  have HCHK := Lib.hid (fun (W : World) => show Calls Try.prog 17 #[.agg s.cells] W (RetI W 0) from by have := RCheck_any s W; rw [show chk s = 0 from if_pos hok] at this; exact this)
  have hcells := Lib.hid (show s.cells = #[.int .u64 s.serial, .int .i64 s.epoch, .int .i64 s.view, .int .i64 s.normal, .int .i64 s.top, .int .i64 s.base, .int .i64 s.area, .int .i64 s.start, .int .u32 s.chain] from rfl)
  rw [hcells.out] at HX HB1 HENC HCHK ⊢
  go_enter Try.func5, Try.ntmps5
  go_wp2_with (first
    | (go_at_call 18; go_must (refine (awake_true _).mono ?_; rintro e w1 ⟨rfl, hb⟩; have HB2 := Lib.hid (HB1.out.trans (hb.mono HB1.out.size)); have HX2 := Lib.hid (blk_below HX.out hb); clear hb))
    | (refine wpList_load_blk rfl 25 _ rfl (b := w.heap.size) rfl _ rfl rfl (fun _ => by simp [go_sem, isAgg]) HX2.out ?_)
    | (refine wpList_load_blk rfl 25 _ rfl (b := w.heap.size) rfl _ rfl rfl (fun _ => by simp [go_sem, isAgg]) HX3.out ?_)
    | (go_at_call 12; go_must (refine (HENC.out _).mono ?_; rintro e w2 ⟨A2, c2, rfl, _, hb⟩; have HB3 := Lib.hid (HB2.out.trans (hb.mono HB2.out.size)); have HX3 := Lib.hid (blk_below HX2.out hb); clear hb))
    | (go_at_call 17; go_must (refine (HCHK.out _).mono ?_; rintro e w3 ⟨rfl, hb⟩; have HB4 := Lib.hid (HB3.out.trans (hb.mono HB3.out.size)); clear hb)))
  go_ret
  exact ⟨rfl, HB4.out⟩
theorem own_at {w : World} {base n c : Nat} {e : TypeId} {A : Option Addr} {xs : List Value} (h : w.ownsRow base e 1 (.slice A n c) n xs) (hn : 0 < n) : ∃ g cur, A = some ⟨g, 0, none⟩ ∧ base ≤ g ∧ w.heap[g]? = some (.cells cur e (0, 0)) ∧ n ≤ c ∧ c ≤ maxLen ∧ cur.size = c ∧ cur.toList.take n = xs := by
  rcases h.2 with ⟨he, h0⟩ | ⟨g, cap, cur, he, hb, hh, h1, h2, h3, h4⟩
  · cases he; omega
  · cases he
    exact ⟨g, cur, rfl, hb, hh, h1, h2, by simpa using h3, by simpa using h4⟩
theorem set_bytes {w : World} {g n c k : Nat} {cur : Array Value} {l : List UInt8} {e : TypeId} (hh : w.heap[g]? = some (.cells cur e (0, 0))) (h1 : n ≤ c) (h2 : c ≤ maxLen) (h3 : cur.size = c) (h4 : cur.toList.take n = bytes l) (v : UInt8) : Bs (w.setCell ⟨g, k, none⟩ (.int .u8 (v.toNat : Int))) (some ⟨g, 0, none⟩) n c (l.set k v) := by
  have hl : l.length = n := by
    have := congrArg List.length h4
    simp [bytes_length] at this
    omega
  refine ⟨by simp [bytes_length, hl], h1, h2, fun _ => ⟨_, rfl, fun j u hu => ?_⟩⟩
  have hj : j < n := by
    have := (List.getElem?_eq_some_iff.1 hu).1
    simpa [bytes_length, hl] using this
  have ea : (⟨g, 0, none⟩ : Addr).add j = ⟨g, j, none⟩ := by unfold Addr.add; split <;> simp_all
  rw [ea, blk_cell (blk_set hh k _)]
  by_cases hjk : j = k
  · subst hjk
    simp only [bytes, List.getElem?_map, List.getElem?_set_self (show j < l.length by omega), Option.map_some, Option.some.injEq, byt] at hu
    rw [← hu, Array.getElem?_setIfInBounds_self, if_pos (by omega)]
  · simp only [bytes, List.getElem?_map, List.getElem?_set_ne (Ne.symm hjk)] at hu
    rw [Array.getElem?_setIfInBounds_ne (Ne.symm hjk)]
    have := congrArg (fun z : List Value => z[j]?) h4
    simp only [List.getElem?_take, if_pos hj, bytes, List.getElem?_map] at this
    rw [← hu, ← this]
    simp
set_option maxHeartbeats 1000000 in
theorem SuperSpoilt_spoilt (s : Sup) (a x : Nat) (w : World) (hf : s.fit) (hok : s.ok) (ha : a < 256) (hx0 : 0 < x) (hx : x < 256) : Calls Try.prog 5 #[.agg s.cells, .int .u8 (a : Int), .int .u8 (x : Int)] w (RetTrue w) := by
  have HX := Lib.hid (blk_new w (.cells s.cells 25))
  have HB1 := Lib.hid ((Below.refl _ w).alloc (Nat.le_refl _) (.cells s.cells 25))
  have HENC := Lib.hid (fun (W : World) => Encode_ok s W hf hok)
  obtain ⟨k, hk⟩ : ∃ k, k = a % 72 := ⟨_, rfl⟩
  have hk72 : k < 72 := by omega
  have hlen := supB_length s
  obtain ⟨o, ho⟩ : ∃ o : UInt8, o = (supB s)[k]'(by omega) := ⟨_, rfl⟩
  obtain ⟨v, hv⟩ : ∃ v : UInt8, v = UInt8.ofNat (o.toNat ^^^ x) := ⟨_, rfl⟩
  have hob := o.toNat_lt
  have hvn : v.toNat = o.toNat ^^^ x := by rw [hv]; exact UInt8.toNat_ofNat_of_lt' (by have := Nat.xor_lt_two_pow (n := 8) hob hx; simpa [UInt8.size] using this)
  have hne : v ≠ o := by
    intro e
    rw [e] at hvn
    have h1 : o.toNat ^^^ o.toNat = o.toNat ^^^ (o.toNat ^^^ x) := by rw [← hvn]
    rw [← Nat.xor_assoc, Nat.xor_self, Nat.zero_xor] at h1
    omega
  have hdec := decode_spoilt s k hk72 v (by rw [← ho]; exact hne)
  have HDEC := Lib.hid (fun (A : Option Addr) (c' : Nat) (W : World) (hb : Bs W A 72 c' ((supB s).set k v)) => Decode_any A 72 c' _ W hb)
  unfold RetS at HDEC
  obtain ⟨⟨sd, sc⟩, hsd⟩ : ∃ y, y = decode ((supB s).set k v) := ⟨_, rfl⟩
  rw [← hsd] at HDEC hdec
  have hsc : (sc == 0) = false := by rw [beq_eq_false_iff_ne]; exact hdec
  have hcells := Lib.hid (show s.cells = #[.int .u64 s.serial, .int .i64 s.epoch, .int .i64 s.view, .int .i64 s.normal, .int .i64 s.top, .int .i64 s.base, .int .i64 s.area, .int .i64 s.start, .int .u32 s.chain] from rfl)
  have hdc := Lib.hid (show sd.cells = #[.int .u64 sd.serial, .int .i64 sd.epoch, .int .i64 sd.view, .int .i64 sd.normal, .int .i64 sd.top, .int .i64 sd.base, .int .i64 sd.area, .int .i64 sd.start, .int .u32 sd.chain] from rfl)
  simp only [hdc.out] at HDEC
  rw [hcells.out] at HX HB1 HENC ⊢
  have hx1 : ((x : Int) == 0) = false := by rw [beq_eq_false_iff_ne]; omega
  have hrem : (a : Int) % 72 = (k : Int) := by omega
  have hxor : bits .xor .u8 (o.toNat : Int) (x : Int) = (v.toNat : Int) := by rw [hvn]; exact u8_xor_nat _ _ hob hx
  have hget := Lib.hid (show (supB s)[k]? = some o from by rw [ho]; exact List.getElem?_eq_getElem _)
  have hk72' : (k : Int) < 72 := by omega
  clear hk hsd hdec hne hvn hv ho hf hok hlen
  go_enter Try.func5, Try.ntmps5
  go_wp2_with (first
    | (go_at_call 18; go_must (refine (awake_true _).mono ?_; rintro e w1 ⟨rfl, hb⟩; have HB2 := Lib.hid (HB1.out.trans (hb.mono HB1.out.size)); have HX2 := Lib.hid (blk_below HX.out hb); clear hb))
    | (refine wpList_load_blk rfl 25 _ rfl (b := w.heap.size) rfl _ rfl rfl (fun _ => by simp [go_sem, isAgg]) HX2.out ?_)
    | (go_at_call 12; go_must (refine (HENC.out _).mono ?_; rintro e w2 ⟨A2, c2, rfl, ho, hb⟩; have HB3 := Lib.hid (HB2.out.trans (hb.mono HB2.out.size)); obtain ⟨g, cur, rfl, hge, hh, h1, h2, h3, h4⟩ := own_at ho (by omega); have HH := Lib.hid hh; have H1 := Lib.hid h1; have H2 := Lib.hid h2; have H3 := Lib.hid h3; have H4 := Lib.hid h4; have HGE := Lib.hid (Nat.le_trans HB2.out.size hge); have y0 : w2.cell? ⟨g, k, none⟩ = some (.int .u8 (o.toNat : Int)) := (blk_cell hh k).trans (by have := congrArg (fun z : List Value => z[k]?) h4; simp only [List.getElem?_take, if_pos hk72, bytes, List.getElem?_map, hget.out] at this; simpa [byt] using this); have yf : w2.frozen? ⟨g, k, none⟩ = false := blk_frozen hh k; clear ho hb hge hh h1 h2 h3 h4))
    | (go_at_call 14; go_must (refine (HDEC.out _ _ _ (set_bytes HH.out H1.out H2.out H3.out H4.out v)).mono ?_; rintro e w3 ⟨rfl, hb⟩; have HB4 := Lib.hid ((HB3.out.setCell (by simpa using HGE.out) _).trans (hb.mono (HB3.out.setCell (by simpa using HGE.out) _).size)); clear hb)))
  go_ret
  refine ⟨?_, HB4.out.alloc HB4.out.size _⟩
  simpa using hsc
end Go.Proofs.Ytaldjmhikebecaa
