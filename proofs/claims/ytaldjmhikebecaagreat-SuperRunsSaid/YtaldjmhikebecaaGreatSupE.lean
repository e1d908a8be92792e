/- Layer 9 (super): Encode of both. -/
import Derived.Test.YtaldjmhikebecaaGreatSup
namespace Go.Proofs.YtaldjmhikebecaaGreat
open Go Go.RowKit
set_option maxRecDepth 100000
set_option linter.unusedVariables false
attribute [local go_sem] Oper.semAt_some
def supN (ser e v n t b a st ch : Nat) : Sup := ⟨ser, e, v, n, t, b, a, st, ch⟩
theorem supN_body (ser e v n t b a st ch : Nat) : supBody (supN ser e v n t b a st ch) = leAll 8 [e, v, n, t, b] ++ leAll 4 [a, st, ch] := by simp [supBody, supN]
theorem sup_of_ok (s : Sup) (h : s.ok) : ∃ e v n t b a st : Nat, s = supN s.serial e v n t b a st s.chain ∧ e ≤ 4611686018427387904 ∧ v ≤ 4611686018427387904 ∧ n ≤ 4611686018427387904 ∧ t ≤ 4611686018427387904 ∧ b ≤ 4611686018427387904 ∧ a ≤ 1 ∧ st ≤ 65536 := by
  obtain ⟨hk, h1, h2, h3, h4⟩ := h
  have k0 := hk ⟨0, by omega⟩
  have k1 := hk ⟨1, by omega⟩
  have k2 := hk ⟨2, by omega⟩
  have k3 := hk ⟨3, by omega⟩
  have k4 := hk ⟨4, by omega⟩
  simp only [Sup.num, Sup.okNum, List.getD_cons_zero, List.getD_cons_succ] at k0 k1 k2 k3 k4
  refine ⟨s.epoch.toNat, s.view.toNat, s.normal.toNat, s.top.toNat, s.base.toNat, s.area.toNat, s.start.toNat, ?_, by omega, by omega, by omega, by omega, by omega, by omega, by omega⟩
  obtain ⟨ser, e, v, n, t, b, a, st, ch⟩ := s
  simp only [supN, Sup.mk.injEq, true_and, and_true]
  simp only at *
  omega
theorem REncode_nat (ser e v n t b a st ch : Nat) (w : World) (hser : ser < 18446744073709551616) (he : e ≤ 4611686018427387904) (hv : v ≤ 4611686018427387904) (hn : n ≤ 4611686018427387904) (ht : t ≤ 4611686018427387904) (hb : b ≤ 4611686018427387904) (ha : a ≤ 1) (hst : st ≤ 65536) (hch : ch < 4294967296) (hok : (supN ser e v n t b a st ch).ok) :
    Calls Tryz.prog 49 #[.agg (supN ser e v n t b a st ch).cells] w (RetBE w 72 (supB (supN ser e v n t b a st ch)) 0) := by
  have hf := Lib.hid (show chk (supN ser e v n t b a st ch) = 0 from if_pos hok)
  have hB := Lib.hid (show supB (supN ser e v n t b a st ch) = frameB 1 ser (leAll 8 [e, v, n, t, b] ++ leAll 4 [a, st, ch]) from by rw [supB, supN_body]; rfl)
  clear hok
  have hcells := Lib.hid (show (supN ser e v n t b a st ch).cells = #[.int .u64 (ser : Int), .int .i64 (e : Int), .int .i64 (v : Int), .int .i64 (n : Int), .int .i64 (t : Int), .int .i64 (b : Int), .int .i64 (a : Int), .int .i64 (st : Int), .int .u32 (ch : Int)] from rfl)
  have hc := Lib.hid (RCheck_any (supN ser e v n t b a st ch) (w.alloc (.cells (supN ser e v n t b a st ch).cells 30)))
  rw [hf.out, hcells.out] at hc
  rw [hcells.out]
  have hblk := blk_new w (.cells #[.int .u64 (ser : Int), .int .i64 (e : Int), .int .i64 (v : Int), .int .i64 (n : Int), .int .i64 (t : Int), .int .i64 (b : Int), .int .i64 (a : Int), .int .i64 (st : Int), .int .u32 (ch : Int)] 30)
  have HBLK := Lib.hid hblk
  clear hblk
  have tok1 : True := trivial
  have HSER := Lib.hid hser
  clear hser
  go_enter Tryz.func49, Tryz.ntmps49
  go_wp2_with (first | (go_at_call 10; go_must (refine hc.out.mono ?_; rintro e wx ⟨rfl, hbx⟩; have HB := Lib.hid hbx; have HX := Lib.hid (blk_below HBLK.out hbx); clear hbx; have x0 := blk_cell HX.out 0; have x1 := blk_cell HX.out 1; have x2 := blk_cell HX.out 2; have x3 := blk_cell HX.out 3; have x4 := blk_cell HX.out 4; have x5 := blk_cell HX.out 5)) | (go_at_call 79; have _t := tok1; clear tok1; go_must (refine (RPutAll_ok none 0 0 [] 8 8 rfl _ 5 5 [e, v, n, t, b] _ (Rd.nil _ _ _ _ (by unfold maxLen; omega)) (by omega) (by omega) (cells_at _ _ _ 5 _ rfl rfl (by unfold maxLen; omega)) (by simp; omega) (by simp; omega) (by omega)).mono ?_; clear _t; rintro e2 wy ⟨Ay, cy, rfl, hoy, hby⟩; simp only [Nat.zero_add, Nat.reduceMul, List.nil_append] at hoy; have HOY := Lib.hid hoy; have HBY := Lib.hid hby; have HY := Lib.hid (blk_below (blk_alloc HX.out _) hby); clear hoy hby x0 x1 x2 x3 x4 x5; have y0 := blk_cell HY.out 0; have y6 := blk_cell HY.out 6; have y7 := blk_cell HY.out 7; have y8 := blk_cell HY.out 8)) | (go_at_call 79; go_must (refine (RPutAll_ok _ 40 _ _ 4 4 rfl _ 3 3 [a, st, ch] _ (Bs.alloc (Bs.of_own HOY.out) _) (by omega) (by omega) (cells_at _ _ _ 3 _ rfl rfl (by unfold maxLen; omega)) (by simp; omega) (by simp; omega) (by omega)).mono ?_; rintro e3 wz ⟨Az, cz, rfl, hoz, hbz⟩; simp only [Nat.reduceAdd, Nat.reduceMul] at hoz; have HOZ := Lib.hid hoz; have HBZ := Lib.hid hbz; have HZ := Lib.hid (blk_below (blk_alloc HY.out _) hbz); clear hoz hbz y0 y6 y7 y8; have z0 := blk_cell HZ.out 0)) | (go_at_call 80; go_must (refine (RWrite_ok 1 ser _ 52 _ _ _ (Bs.of_own HOZ.out) HSER.out (by omega)).mono ?_; rintro e4 wr ⟨Ar, cr, rfl, hor, hbr⟩; simp only [Nat.reduceAdd] at hor; have HOR := Lib.hid hor; have HBR := Lib.hid hbr; clear hor hbr)))
  go_ret2
  have b1 := below_alloc_then HB.out
  have b2 := bthen b1 (below_alloc_then HBY.out)
  have b3 := bthen b2 (below_alloc_then HBZ.out)
  exact ⟨Ar, cr, rfl, by rw [hB.out]; exact own_weaken HOR.out b3.size, bthen b3 HBR.out⟩
theorem REncode_ok (s : Sup) (w : World) (hf : s.fit) (h : s.ok) : Calls Tryz.prog 49 #[.agg s.cells] w (RetBE w 72 (supB s) 0) := by
  obtain ⟨e, v, n, t, b, a, st, hs, he, hv, hn, ht, hb, ha, hst⟩ := sup_of_ok s h
  rw [hs] at h ⊢
  exact REncode_nat s.serial e v n t b a st s.chain w hf.1 he hv hn ht hb ha hst hf.2 h

/-! ### Encode -/
theorem Encode_bad (s : Sup) (w : World) (h : ¬ s.ok) : Calls Tryz.prog 35 #[.agg s.cells] w fun e w' => e = .returned (.tuple #[.slice none 0 0, .int .i64 90]) ∧ Below w.heap.size w w' := by
  have hf := Lib.hid (show chk s = 90 from if_neg h)
  clear h
  have hcells := Lib.hid (show s.cells = #[.int .u64 s.serial, .int .i64 s.epoch, .int .i64 s.view, .int .i64 s.normal, .int .i64 s.top, .int .i64 s.base, .int .i64 s.area, .int .i64 s.start, .int .u32 s.chain] from rfl)
  have hc := Lib.hid (Check_any s (w.alloc (.cells s.cells 30)))
  rw [hf.out, hcells.out] at hc
  rw [hcells.out]
  go_enter Tryz.func35, Tryz.ntmps35
  go_wp2_with (go_at_call 66; go_must (refine hc.out.mono ?_; rintro e wx ⟨rfl, hbx⟩; have HB := Lib.hid hbx; clear hbx))
  go_ret2
  exact ⟨rfl, below_alloc_then HB.out⟩
theorem own_row {W W' : World} {row : Option Nat} {base n : Nat} {e : TypeId} {v : Value} {xs : List Value} (h : W.ownsRow base e 1 v n xs) (hg : W.grownBy W' row) {B : Nat} (hr : ∀ r, row = some r → B ≤ r ∧ ∃ o : Obj, W.heap[r]? = some o ∧ o.isCells = false) : W'.ownsRow base e 1 v n xs := by
  refine h.kept hg ?_
  rcases h.2 with ⟨rfl, _⟩ | ⟨g, cap, cur, rfl, _, hh, _⟩
  · exact .inl rfl
  · refine .inr fun he => ?_
    obtain ⟨_, _, ho, hc⟩ := hr g (by rw [← he]; rfl)
    rw [hh] at ho
    cases ho
    cases hc
def numsOf (s : Sup) (l : List (Fin 5)) : List Nat := l.map fun k => (s.num k).toNat
/-- Between two rounds of Encode: what the cells hold. -/
def EncI (s : Sup) (w : World) (bs bx : Nat) (pre : List (Fin 5)) (W : World) : Prop :=
  ∃ A c, (W.heap[bs]? = some (.cells s.cells 30 (0, 0)) ∧ W.heap[bx]? = some (.cells #[.slice A (pre.length * 8) c] 51 (0, 0)) ∧ W.ownsRow w.heap.size 5 1 (.slice A (pre.length * 8) c) (pre.length * 8) (bytes (leAll 8 (numsOf s pre)))) ∧ Below w.heap.size w W
theorem EncI_own (s : Sup) (w : World) (bs bx B : Nat) (hB : w.heap.size ≤ B) : OwnFrom B (EncI s w bs bx) := by
  rintro pre A B' row ⟨A1, c1, ⟨h1, h2, h3⟩, h4⟩ hg hr
  exact ⟨A1, c1, ⟨own_blk h1 hg hr, own_blk h2 hg hr, own_row h3 hg hr⟩, own_bel h4 hg hB hr⟩
def encAct (ser e v n t b a st ch bs bx : Nat) (x : Fin 5) : Act := { tmps := #[.agg #[.int .u64 (ser : Int), .int .i64 (e : Int), .int .i64 (v : Int), .int .i64 (n : Int), .int .i64 (t : Int), .int .i64 (b : Int), .int .i64 (a : Int), .int .i64 (st : Int), .int .u32 (ch : Int)], .pointer (some ⟨bs, 0, none⟩), .slice none 0 0, .int .i64 0, .int .i64 0, .pointer (some ⟨bx, 0, none⟩), .pointer (some ⟨bs, x.val + 1, none⟩), .agg #[.int .u64 (ser : Int), .int .i64 (e : Int), .int .i64 (v : Int), .int .i64 (n : Int), .int .i64 (t : Int), .int .i64 (b : Int), .int .i64 (a : Int), .int .i64 (st : Int), .int .u32 (ch : Int)], .int .i64 0, .int .i64 0, .bool false, undef, .func (.func 94) #[] #[.pointer (some ⟨bx + 1, 0, none⟩)], .pointer (some ⟨bs, x.val + 1, none⟩), undef, undef, undef, undef, undef, undef, undef, undef, undef, undef, undef, undef, undef, undef, undef, undef, undef, undef, undef, undef, undef, undef, undef, undef, undef, undef, undef, undef, undef, undef, undef], defers := [] }
theorem Encode_nat (ser e v n t b a st ch : Nat) (w : World) (hser : ser < 18446744073709551616) (he : e ≤ 4611686018427387904) (hv : v ≤ 4611686018427387904) (hn : n ≤ 4611686018427387904) (ht : t ≤ 4611686018427387904) (hb : b ≤ 4611686018427387904) (ha : a ≤ 1) (hst : st ≤ 65536) (hch : ch < 4294967296) (hok : (supN ser e v n t b a st ch).ok) :
    Calls Tryz.prog 35 #[.agg (supN ser e v n t b a st ch).cells] w (RetBE w 72 (supB (supN ser e v n t b a st ch)) 0) := by
  have hf := Lib.hid (show chk (supN ser e v n t b a st ch) = 0 from if_pos hok)
  have hB := Lib.hid (show supB (supN ser e v n t b a st ch) = frameB 1 ser (leAll 8 [e, v, n, t, b] ++ leAll 4 [a, st, ch]) from by rw [supB, supN_body]; rfl)
  have hnum := Lib.hid (fun k => (hok.1 k))
  clear hok
  have hcells := Lib.hid (show (supN ser e v n t b a st ch).cells = #[.int .u64 (ser : Int), .int .i64 (e : Int), .int .i64 (v : Int), .int .i64 (n : Int), .int .i64 (t : Int), .int .i64 (b : Int), .int .i64 (a : Int), .int .i64 (st : Int), .int .u32 (ch : Int)] from rfl)
  have hc := Lib.hid (Check_any (supN ser e v n t b a st ch) (w.alloc (.cells (supN ser e v n t b a st ch).cells 30)))
  have HBLK := Lib.hid (blk_new w (.cells (supN ser e v n t b a st ch).cells 30))
  have HSER := Lib.hid hser
  clear hser
  rw [hf.out, hcells.out] at hc
  rw [hcells.out] at HBLK
  rw [hcells.out]
  refine callsIn_wide.1 (callsIn_of_wp_marks (n := 9) Tryz.func35 rfl trivial ?_ rfl)
  simp only [Tryz.ntmps35, List.size_toArray, List.length_cons, List.length_nil, Nat.reduceAdd, Nat.reduceSub, Array.replicate_succ, Array.replicate_zero, List.push_toArray, List.append_toArray, List.nil_append, List.cons_append]
  gi_wp2_with (first | (refine ⟨trivial, ?_⟩; gi_at_call 66; refine (callsIn_wide.2 hc.out).mono ?_; rintro e5 wx ⟨rfl, hbx⟩; have HB := Lib.hid hbx; have HX := Lib.hid (blk_below HBLK.out hbx); clear hbx) | (refine ⟨trivial, ?_⟩; gi_at_call 67; refine (callsIn_wide.2 (each_any _ _)).mono ?_; rintro e6 w' ⟨rfl, rfl⟩))
  have hb0 := below_alloc_then HB.out
  have hb1 : (((wx.alloc (.cells #[.slice none 0 0] 51)).alloc (.cells #[.pointer (some ⟨w.heap.size, 0, none⟩)] 124))).heap[w.heap.size]? = some (.cells (supN ser e v n t b a st ch).cells 30 (0, 0)) := by rw [hcells.out]; exact blk_alloc (blk_alloc HX.out _) _
  have hb2 := blk_alloc (blk_new wx (.cells #[.slice none 0 0] 51)) (.cells #[.pointer (some ⟨w.heap.size, 0, none⟩)] 124)
  have hb3 := blk_cell (blk_new (wx.alloc (.cells #[.slice none 0 0] 51)) (.cells #[.pointer (some ⟨w.heap.size, 0, none⟩)] 124)) 0
  have hbel : Below w.heap.size w ((wx.alloc (.cells #[.slice none 0 0] 51)).alloc (.cells #[.pointer (some ⟨w.heap.size, 0, none⟩)] 124)) := (hb0.alloc hb0.size _).alloc (by have := hb0.size; simp; omega) _
  simp only [World.size_alloc] at hb3
  have hws := hb0.size
  have hws2 : w.heap.size < wx.heap.size := blk_lt HX.out
  have hsz : wx.heap.size + 2 ≤ ((wx.alloc (.cells #[.slice none 0 0] 51)).alloc (.cells #[.pointer (some ⟨w.heap.size, 0, none⟩)] 124)).heap.size := by simp
  generalize ((wx.alloc (.cells #[.slice none 0 0] 51)).alloc (.cells #[.pointer (some ⟨w.heap.size, 0, none⟩)] 124)) = W0 at hb1 hb2 hb3 hbel hsz ⊢
  refine wpIn_rangeFunc_ownF (w := W0) rfl (by omega) (gf := 94) (lb := #[.pointer (some ⟨wx.heap.size + 1, 0, none⟩)]) rfl trivial (enters_of Tryz.func94 (by kernel_rfl) rfl)
    (each_stops 8 (wx.heap.size + 1) w.heap.size (by omega) W0 hb3) (fun _ _ => trivial) (fun _ _ _ _ _ _ _ _ => trivial) (Below.refl _ _) (fun _ => rfl)
    (EncI (supN ser e v n t b a st ch) w w.heap.size wx.heap.size) (fun _ _ _ => False) (EncI_own _ _ _ _ _ (by omega)) (fun _ _ _ _ _ h _ _ => h)
    ⟨none, 0, ⟨hb1, hb2, World.ownsRow_nil _ _ _ _⟩, hbel⟩ (encAct ser e v n t b a st ch w.heap.size wx.heap.size) ?assign ?body ?done ?stop
  case assign =>
    intro l x W K hK
    simp only [eachEnc]
    gi_wp2
    exact hK
  case body =>
    rintro l pre x W ⟨A, c, ⟨h1, h2, h3⟩, h4⟩ hlen
    have hx := num_at h1 x
    have hnx := hnum.out x
    have hle : leAll 8 (numsOf (supN ser e v n t b a st ch) (pre ++ [x])) = leAll 8 (numsOf (supN ser e v n t b a st ch) pre) ++ leN ((supN ser e v n t b a st ch).num x).toNat 8 := by
      unfold numsOf
      rw [List.map_append]
      exact leAll_snoc _ _ _
    obtain ⟨y, hy⟩ := Int.eq_ofNat_of_zero_le hnx.1
    have hy2 : y ≤ 4611686018427387904 := by have := hnx.2; omega
    rw [hy] at hx hle
    rw [Int.toNat_natCast] at hle
    have HLE := Lib.hid hle
    have hml : (pre ++ [x]).length * 8 = pre.length * 8 + 8 := by simp; omega
    have HML := Lib.hid hml
    have hmb : pre.length * 8 ≤ 40 := by omega
    have hr0 := blk_cell h2 0
    have hrf := blk_frozen h2 0
    simp only [List.getElem?_toArray, List.getElem?_cons_zero] at hr0
    have hbxl := blk_lt h2
    have H1 := Lib.hid h1
    have H2 := Lib.hid h2
    have H3 := Lib.hid h3
    have H4 := Lib.hid h4
    clear h1 h2 h3 h4 hle hml hlen hy hnx
    unfold encAct
    generalize pre.length * 8 = m at hr0 H3 H2 HML hmb
    have hput : Hid (∀ W1 : World, Bs W1 A m c (leAll 8 (numsOf (supN ser e v n t b a st ch) pre)) → Calls Tryz.prog 68 #[.slice A m c, .int .u64 y, .int .i64 8] W1 (RetBE W1 (m + 8) (leAll 8 (numsOf (supN ser e v n t b a st ch) pre) ++ leN y 8) 0)) := Lib.hid (fun W1 h => Put_ok A m c _ y 8 W1 h (by omega) (by omega) (by omega) (by omega) (by omega))
    have gw : IntKind.u64.wrap (y : Int) = y := by rw [IntKind.wrap_u64]; omega
    gi_wp2_with fail
    gi_region_with (refine ⟨trivial, ?_⟩; gi_at_call 68; refine (CallsIn.inRound l (callsIn_wide.2 (hput.out _ (by exact Bs.of_own H3.out)))).mono ?_; rintro e2 w2 ⟨A2, c2, rfl, ho2, hb2'⟩; have HO2 := Lib.hid ho2; have HB2 := Lib.hid hb2'; have q0 := cell_keep hb2' hr0; have qf := (hb2'.frozen (p := ⟨wx.heap.size, 0, none⟩) hbxl).trans hrf; clear ho2 hb2')
    all_goals
      gi_wp2
      have hbw : Below W.heap.size W w2 := (Below.refl _ W).drew.trans HB2.out
      have hlt1 := blk_lt H1.out
      refine ⟨(keeps_below hbw).trans (KeepsOthers.setCell _ _ _), trivial, A2, c2, ⟨blk_far (blk_below H1.out hbw) (by simp; omega) _, ?_, ?_⟩, (bthen H4.out hbw).setCell (by simp; omega) _⟩
      · rw [HML.out]
        simpa using blk_set (blk_below H2.out hbw) 0 (.slice A2 (m + 8) c2)
      · rw [HML.out, HLE.out]
        have ho3 := own_weaken HO2.out H4.out.size
        refine ho3.kept (row := some wx.heap.size) ⟨rfl, rfl, rfl, by simp [World.setCell], fun k _ hne => Below.heap_setCell _ _ _ _ (fun e => hne (by simp at e; rw [e]))⟩ ?_
        have hlt2 := hbxl
        cases A2 with
        | none => exact .inl rfl
        | some ad2 =>
          refine .inr fun e => ?_
          have := (own_base HO2.out ad2.block rfl).1
          simp [Value.ownBlock] at e
          simp at this
          omega
  case done =>
    rintro D ys W hD rfl ⟨A, c, ⟨h1, h2, h3⟩, h4⟩ hK
    have hl40 : (upto5 5).length * 8 = 40 := by rw [upto5_length 5 (by omega)]
    have hnums : numsOf (supN ser e v n t b a st ch) (upto5 5) = [e, v, n, t, b] := by rw [show upto5 5 = [0, 1, 2, 3, 4] from by decide]; rfl
    rw [hl40] at h2 h3
    rw [hnums] at h3
    rw [hcells.out] at h1
    have x0 := blk_cell h1 0
    have x6 := blk_cell h1 6
    have x7 := blk_cell h1 7
    have x8 := blk_cell h1 8
    have hr0 := blk_cell h2 0
    have hrf := blk_frozen h2 0
    simp only [List.getElem?_toArray, List.getElem?_cons_zero] at hr0
    have hbxl := blk_lt h2
    have H1 := Lib.hid h1
    have H2 := Lib.hid h2
    have H3 := Lib.hid h3
    have H4 := Lib.hid h4
    have HK := Lib.hid hK
    clear h1 h2 h3 h4 hK hl40 hnums
    gi_wp2_with (first | (refine ⟨trivial, ?_⟩; gi_at_call 69; refine (callsIn_wide.2 (PutAll_ok A 40 c _ 4 _ 3 3 [a, st, ch] _ (Bs.alloc (Bs.of_own H3.out) _) (by omega) (by omega) (cells_at _ _ _ 3 _ rfl rfl (by unfold maxLen; omega)) (by simp; omega) (by simp; omega) (by omega))).mono ?_; rintro e7 wz ⟨Az, cz, rfl, hoz, hbz⟩; simp only [Nat.reduceAdd, Nat.reduceMul] at hoz; have HOZ := Lib.hid hoz; have HBZ := Lib.hid hbz; have HZ1 := Lib.hid (blk_below (blk_alloc H1.out _) hbz); have HZ2 := Lib.hid (blk_below (blk_alloc H2.out _) hbz); clear hoz hbz x0 x6 x7 x8 hr0 hrf; have z0 := blk_cell HZ1.out 0; have q0 := blk_cell HZ2.out 0; have qf := blk_frozen HZ2.out 0; simp only [List.getElem?_toArray, List.getElem?_cons_zero] at q0) | (refine ⟨trivial, ?_⟩; gi_at_call 70; refine (callsIn_wide.2 (Write_ok 1 ser _ 52 _ _ _ ((Bs.of_own HOZ.out).set (p := ⟨wx.heap.size, 0, none⟩) (fun ad e => (by subst e; have := (own_base HOZ.out ad.block rfl).1; simp at this; simp; omega)) _) HSER.out (by omega))).mono ?_; rintro e8 wr ⟨Ar, cr, rfl, hor, hbr⟩; simp only [Nat.reduceAdd] at hor; have HOR := Lib.hid hor; have HBR := Lib.hid hbr; clear hor hbr))
    have hbw : Below W.heap.size W wz := below_alloc_then HBZ.out
    have hkz := (keeps_below hbw).same D _ HK.out rfl
    have hks := (KeepsOthers.setCell wz ⟨wx.heap.size, 0, none⟩ (.slice Az 52 cz)).same D _ hkz rfl
    have hkr := (keeps_below HBR.out).same D _ hks rfl
    have hb1 := (bthen H4.out hbw).setCell (p := ⟨wx.heap.size, 0, none⟩) (by simp; omega) (.slice Az 52 cz)
    have hb2 := bthen hb1 HBR.out
    have hg := grownBy_putObj' wr D (.deferred none)
    have hrr : ∀ r, some D = some r → w.heap.size ≤ r ∧ ∃ o : Obj, wr.heap[r]? = some o ∧ o.isCells = false := fun r e => by cases e; exact ⟨by omega, _, hkr, rfl⟩
    refine ⟨by simp, .inl ⟨_, _, rfl, run_takeDeferred hkr, ?_⟩⟩
    refine ⟨_, results_tmp2 rfl _ _ _, Ar, cr, rfl, own_row (by rw [hB.out]; exact own_weaken HOR.out hb1.size) hg hrr, own_bel hb2 hg (Nat.le_refl _) hrr⟩
  case stop =>
    rintro D c pre W hD _ h _
    exact h.elim
theorem Encode_ok (s : Sup) (w : World) (hf : s.fit) (h : s.ok) : Calls Tryz.prog 35 #[.agg s.cells] w (RetBE w 72 (supB s) 0) := by
  obtain ⟨e, v, n, t, b, a, st, hs, he, hv, hn, ht, hb, ha, hst⟩ := sup_of_ok s h
  rw [hs] at h ⊢
  exact Encode_nat s.serial e v n t b a st s.chain w hf.1 he hv hn ht hb ha hst hf.2 h
end Go.Proofs.YtaldjmhikebecaaGreat
