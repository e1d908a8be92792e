/- Layer 9 (super): Decode of a frame that is a superblock's. -/
import Derived.Test.YtaldjmhikebecaaGreatDec

namespace Go.Proofs.YtaldjmhikebecaaGreat
open Go Go.RowKit
set_option maxRecDepth 100000
set_option linter.unusedVariables false
attribute [local go_sem] Oper.semAt_some
theorem own_cell {W W' : World} {row : Option Nat} {a : Addr} {v : Value} (h : W.cell? a = some v) (hg : W.grownBy W' row) {B : Nat} (hr : ∀ r, row = some r → B ≤ r ∧ ∃ o : Obj, W.heap[r]? = some o ∧ o.isCells = false) : W'.cell? a = some v := by
  have hlt := World.block_lt_of_cell? W a h
  refine (World.cell?_of_block (hg.block a.block hlt ?_)).trans h
  intro e
  obtain ⟨_, o, ho, hc⟩ := hr _ e.symm
  unfold World.cell? at h
  rw [ho] at h
  cases o <;> simp_all [Obj.isCells]
/-- Between two rounds of Decode: what the cells hold. -/
def DecI (s0 : Sup) (b : List UInt8) (w : World) (A : Option Addr) (c fx sx ax : Nat) (fr : Array Value) (pre : List (Fin 5)) (W : World) : Prop :=
  (W.heap[w.heap.size]? = some (.cells Sup.zero.cells 30 (0, 0)) ∧ W.heap[fx]? = some (.cells fr 130 (0, 0)) ∧
    W.heap[sx]? = some (.cells (decSt b s0 pre 0).cells 30 (0, 0)) ∧ W.heap[ax]? = some (.cells #[.int .i64 ((pre.length * 8 : Nat) : Int)] 3 (0, 0)) ∧ Bs W A 52 c b) ∧ Below w.heap.size w W
theorem DecI_own (s0 : Sup) (b : List UInt8) (w : World) (A : Option Addr) (c fx sx ax : Nat) (fr : Array Value) (B : Nat) (hB : w.heap.size ≤ B) : OwnFrom B (DecI s0 b w A c fx sx ax fr) := by
  rintro pre W W' row ⟨⟨h1, h2, h3, h4, h5⟩, h6⟩ hg hr
  exact ⟨⟨own_blk h1 hg hr, own_blk h2 hg hr, own_blk h3 hg hr, own_blk h4 hg hr, h5.keep fun a v h => own_cell h hg hr⟩, own_bel h6 hg hB hr⟩
def decAct (A : Option Addr) (n c : Nat) (A3 : Option Addr) (c3 ser bs fx sx ax ex : Nat) (x : Fin 5) : Act := { tmps := List.toArray (.slice A n c :: undef :: .pointer (some ⟨bs, 0, none⟩) :: .int .i64 0 :: .pointer (some ⟨fx, 0, none⟩) :: .int .i64 72 :: .int .i64 0 :: .pointer (some ⟨sx, 0, none⟩) :: .pointer (some ⟨ax, 0, none⟩) :: .pointer (some ⟨sx, x.val + 1, none⟩) :: undef :: undef :: undef :: undef :: undef :: undef :: undef :: .tuple #[.agg #[.int .u8 1, .int .u64 (ser : Int), .slice A3 52 c3], .int .i64 72, .int .i64 0] :: .slice A n c :: .tuple #[.agg #[.int .u8 1, .int .u64 (ser : Int), .slice A3 52 c3], .int .i64 72, .int .i64 0] :: .agg #[.int .u8 1, .int .u64 (ser : Int), .slice A3 52 c3] :: .int .i64 72 :: .int .i64 0 :: .int .i64 0 :: .bool false :: undef :: undef :: .pointer (some ⟨fx, 0, none⟩) :: .int .u8 1 :: .bool false :: .bool false :: .pointer (some ⟨fx, 2, none⟩) :: .slice A3 52 c3 :: .int .i64 52 :: .bool false :: .bool false :: undef :: .pointer (some ⟨fx, 1, none⟩) :: .int .u64 (ser : Int) :: .agg #[.int .u64 (ser : Int), .int .i64 0, .int .i64 0, .int .i64 0, .int .i64 0, .int .i64 0, .int .i64 0, .int .i64 0, .int .u32 0] :: .func (.func 94) #[] #[.pointer (some ⟨ex, 0, none⟩)] :: .pointer (some ⟨sx, x.val + 1, none⟩) :: undef :: undef :: undef :: undef :: undef :: undef :: undef :: undef :: undef :: undef :: undef :: undef :: undef :: undef :: undef :: undef :: undef :: undef :: undef :: undef :: undef :: undef :: undef :: undef :: undef :: undef :: undef :: undef :: undef :: undef :: undef :: undef :: undef :: undef :: undef :: undef :: undef :: undef :: undef :: undef :: undef :: undef :: undef :: undef :: undef :: undef :: undef :: []), defers := [] }
theorem getAll_low (b : List UInt8) : getAll b 40 4 3 = [lowAt b 0, lowAt b 1, lowAt b 2] := by simp [getAll, lowAt]
theorem lowAt_lt (b : List UInt8) (k : Nat) : lowAt b k < 4294967296 := by
  have h := unle_lt ((b.drop (40 + k * 4)).take 4)
  have h2 : 256 ^ ((b.drop (40 + k * 4)).take 4).length ≤ 256 ^ 4 := Nat.pow_le_pow_right (by omega) (by simp; omega)
  unfold lowAt
  omega
def serS (ser : Nat) : Sup := ⟨ser, 0, 0, 0, 0, 0, 0, 0, 0⟩
def clip (v : Nat) : Int := if v ≤ 4611686018427387904 then v else -1
theorem clip_ok (v : Nat) : Sup.okNum (clip v) ↔ v ≤ 4611686018427387904 := by unfold clip Sup.okNum; split <;> omega
theorem dec_st (ser : Nat) (b : List UInt8) : decSt b (serS ser) (upto5 5) 0 = ⟨ser, clip (numAt b 0), clip (numAt b 1), clip (numAt b 2), clip (numAt b 3), clip (numAt b 4), 0, 0, 0⟩ := by
  rw [show upto5 5 = [0, 1, 2, 3, 4] from by decide]
  rfl
theorem oks_iff (s : Sup) : s.ok ↔ (Sup.okNum s.epoch ∧ Sup.okNum s.view ∧ Sup.okNum s.normal ∧ Sup.okNum s.top ∧ Sup.okNum s.base) ∧ 0 ≤ s.area ∧ s.area ≤ 1 ∧ 0 ≤ s.start ∧ s.start ≤ 65536 := by
  refine and_congr_left fun _ => ⟨fun h => ⟨h 0, h 1, h 2, h 3, h 4⟩, fun h k => ?_⟩
  match k with
  | ⟨0, _⟩ => exact h.1
  | ⟨1, _⟩ => exact h.2.1
  | ⟨2, _⟩ => exact h.2.2.1
  | ⟨3, _⟩ => exact h.2.2.2.1
  | ⟨4, _⟩ => exact h.2.2.2.2
theorem dec_fin (l b : List UInt8) (ser : Nat) (hr : readF l = .ok 1 ser b) (hl : b.length = 52) (S0 : Nat) (S1 S2 S3 S4 S5 S6 S7 : Int) (S8 : Nat) (hS : decSt b (serS ser) (upto5 5) 0 = ⟨S0, S1, S2, S3, S4, S5, S6, S7, S8⟩) :
    ((⟨S0, S1, S2, S3, S4, S5, lowAt b 0, lowAt b 1, lowAt b 2⟩ : Sup).ok → decode l = (⟨S0, S1, S2, S3, S4, S5, lowAt b 0, lowAt b 1, lowAt b 2⟩, 0)) ∧
      (¬ (⟨S0, S1, S2, S3, S4, S5, lowAt b 0, lowAt b 1, lowAt b 2⟩ : Sup).ok → decode l = (Sup.zero, 90)) := by
  rw [dec_st] at hS
  injection hS with e0 e1 e2 e3 e4 e5 e6 e7 e8
  subst e0 e1 e2 e3 e4 e5
  have hd : decode l = if (supOf ser b).ok then (supOf ser b, 0) else (Sup.zero, 90) := by
    unfold decode
    rw [hr]
    simp [hl]
  rw [hd]
  have hnum : ∀ v : Nat, Sup.okNum (v : Int) ↔ v ≤ 4611686018427387904 := fun v => by unfold Sup.okNum; omega
  have hiff : (supOf ser b).ok ↔ (⟨ser, clip (numAt b 0), clip (numAt b 1), clip (numAt b 2), clip (numAt b 3), clip (numAt b 4), lowAt b 0, lowAt b 1, lowAt b 2⟩ : Sup).ok := by
    rw [oks_iff, oks_iff]
    simp only [supOf, hnum, clip_ok]
  constructor
  · intro h
    rw [if_pos (hiff.2 h)]
    rw [oks_iff] at h
    simp only [clip_ok] at h
    obtain ⟨⟨h0, h1, h2, h3, h4⟩, _⟩ := h
    simp only [clip, if_pos h0, if_pos h1, if_pos h2, if_pos h3, if_pos h4, supOf]
  · intro h
    rw [if_neg (fun h2 => h (hiff.1 h2))]
theorem dec_leave {w W : World} {D : Nat} {tmps : Array Value} {r : Sup × Int} (hb : W.heap[w.heap.size]? = some (.cells r.1.cells 30 (0, 0))) (hbel : Below w.heap.size w W) (hK : W.heap[D]? = some (.deferred (some []))) (hD : w.heap.size ≤ D)
    (ht : tmps.getD 2 undef = .pointer (some ⟨w.heap.size, 0, none⟩)) (ht3 : tmps.getD 3 undef = .int .i64 r.2) : LeavesInM Fence.wide 9 Tryz.prog Tryz.f46 tmps (RetS w r) [] FrameMode.returning (W.putObj D (.deferred none)) := by
  have hg := grownBy_putObj' W D (.deferred none)
  have hr : ∀ r, some D = some r → w.heap.size ≤ r ∧ ∃ o : Obj, W.heap[r]? = some o ∧ o.isCells = false := fun r e => by cases e; exact ⟨hD, _, hK, rfl⟩
  exact ⟨_, results_blk 2 3 30 rfl ht ht3 _ rfl rfl (fun _ => by simp [go_sem, isAgg]) (own_blk hb hg hr), rfl, own_bel hbel hg (Nat.le_refl _) hr⟩
theorem grown_keep {W W' : World} {b k : Nat} {o : Obj} (hg : W.grownBy W' (some b)) (h : W.heap[k]? = some o) (hne : k ≠ b) : W'.heap[k]? = some o := (hg.block k (blk_lt h) (fun e => hne (by cases e; rfl))).trans h
theorem blk_sets {W : World} {b t : Nat} {S0 S1 S2 S3 S4 S5 S6 S7 S8 : Value} (h : W.heap[b]? = some (.cells #[S0, S1, S2, S3, S4, S5, S6, S7, S8] t (0, 0))) (x y z : Value) :
    ((((W.setCell ⟨b, 6, none⟩ x).setCell ⟨b, 7, none⟩ y).setCell ⟨b, 8, none⟩ z).drew).heap[b]? = some (.cells #[S0, S1, S2, S3, S4, S5, x, y, z] t (0, 0)) := by
  have := blk_set (blk_set (blk_set h 6 x) 7 y) 8 z
  exact this
theorem blk_sets_far {W : World} {b b' : Nat} {o : Obj} (h : W.heap[b']? = some o) (hne : b' ≠ b) (x y z : Value) :
    ((((W.setCell ⟨b, 6, none⟩ x).setCell ⟨b, 7, none⟩ y).setCell ⟨b, 8, none⟩ z).drew).heap[b']? = some o := blk_far (blk_far (blk_far h hne _) hne _) hne _
theorem bel_sets {w W : World} {b : Nat} (h : Below w.heap.size w W) (hb : w.heap.size ≤ b) (x y z : Value) :
    Below w.heap.size w (((W.setCell ⟨b, 6, none⟩ x).setCell ⟨b, 7, none⟩ y).setCell ⟨b, 8, none⟩ z).drew := (((h.setCell hb _).setCell hb _).setCell hb _).drew
set_option maxHeartbeats 2000000 in
theorem Decode_run (A : Option Addr) (n c : Nat) (l : List UInt8) (w : World) (h : Bs w A n c l) (ser : Nat) (b : List UInt8) (hser : ser < 18446744073709551616) (hr : readF l = .ok 1 ser b) (hlen : b.length = 52) :
    Calls Tryz.prog 46 #[.slice A n c] w (RetS w (decode l)) := by
  have hz := Lib.hid (show Sup.zero.cells = #[.int .u64 0, .int .i64 0, .int .i64 0, .int .i64 0, .int .i64 0, .int .i64 0, .int .i64 0, .int .i64 0, .int .u32 0] from rfl)
  have hread := Lib.hid (fun (W : World) (hW : Bs W A n c l) => Read_any A n c l 0 0 W hW rfl (Nat.zero_le _))
  have H := Lib.hid h
  have HR := Lib.hid hr
  have HL := Lib.hid hlen
  have HSER := Lib.hid hser
  clear hr h hlen hser
  refine callsIn_wide.1 (callsIn_of_wp_marks (n := 9) Tryz.func46 rfl trivial ?_ rfl)
  simp only [Tryz.ntmps46, List.size_toArray, List.length_cons, List.length_nil, Nat.reduceAdd, Nat.reduceSub, Array.replicate_succ, Array.replicate_zero, List.push_toArray, List.append_toArray, List.nil_append, List.cons_append]
  gi_wp2_with (first
    | (refine ⟨trivial, ?_⟩; gi_at_call 74; refine (callsIn_wide.2 (hread.out _ (H.out.alloc _))).mono ?_; simp only [List.drop_zero, HR.out, RetF]; rintro e wx ⟨A3, nn, c3, rfl, hbb, hdd, hbx⟩; obtain rfl : nn = 52 := hbb.len.symm.trans HL.out; have HBB := Lib.hid hbb; have HDD := Lib.hid hdd; have HB := Lib.hid hbx; have HX := Lib.hid (blk_below (blk_new _ _) hbx); clear hbx hbb hdd; have hsz := blk_lt HX.out)
    | (refine ⟨trivial, ?_⟩; gi_at_call 67; refine (callsIn_wide.2 (each_any _ _)).mono ?_; rintro e6 w' ⟨rfl, rfl⟩))
  have hb0 := below_alloc_then HB.out
  have hs3 : wx.heap.size + 1 + 1 + 1 = ((((wx.alloc (.cells #[.int .u8 1, .int .u64 (ser : Int), .slice A3 52 c3] 130)).alloc (.cells #[.int .u64 (ser : Int), .int .i64 0, .int .i64 0, .int .i64 0, .int .i64 0, .int .i64 0, .int .i64 0, .int .i64 0, .int .u32 0] 30)).alloc (.cells #[.int .i64 0] 3))).heap.size := by simp
  have hb1 : (((((wx.alloc (.cells #[.int .u8 1, .int .u64 (ser : Int), .slice A3 52 c3] 130)).alloc (.cells #[.int .u64 (ser : Int), .int .i64 0, .int .i64 0, .int .i64 0, .int .i64 0, .int .i64 0, .int .i64 0, .int .i64 0, .int .u32 0] 30)).alloc (.cells #[.int .i64 0] 3)).alloc (.cells #[.pointer (some ⟨wx.heap.size + 1, 0, none⟩)] 124))).heap[w.heap.size]? = some (.cells Sup.zero.cells 30 (0, 0)) := blk_alloc (blk_alloc (blk_alloc (blk_alloc HX.out _) _) _) _
  have hb2 : (((((wx.alloc (.cells #[.int .u8 1, .int .u64 (ser : Int), .slice A3 52 c3] 130)).alloc (.cells #[.int .u64 (ser : Int), .int .i64 0, .int .i64 0, .int .i64 0, .int .i64 0, .int .i64 0, .int .i64 0, .int .i64 0, .int .u32 0] 30)).alloc (.cells #[.int .i64 0] 3)).alloc (.cells #[.pointer (some ⟨wx.heap.size + 1, 0, none⟩)] 124))).heap[wx.heap.size]? = some (.cells #[.int .u8 1, .int .u64 (ser : Int), .slice A3 52 c3] 130 (0, 0)) := blk_alloc (blk_alloc (blk_alloc (blk_new _ _) _) _) _
  have hb3 : (((((wx.alloc (.cells #[.int .u8 1, .int .u64 (ser : Int), .slice A3 52 c3] 130)).alloc (.cells #[.int .u64 (ser : Int), .int .i64 0, .int .i64 0, .int .i64 0, .int .i64 0, .int .i64 0, .int .i64 0, .int .i64 0, .int .u32 0] 30)).alloc (.cells #[.int .i64 0] 3)).alloc (.cells #[.pointer (some ⟨wx.heap.size + 1, 0, none⟩)] 124))).heap[wx.heap.size + 1]? = some (.cells (serS ser).cells 30 (0, 0)) := blk_alloc (blk_alloc (by have := blk_new ((wx.alloc (.cells #[.int .u8 1, .int .u64 (ser : Int), .slice A3 52 c3] 130))) (.cells #[.int .u64 (ser : Int), .int .i64 0, .int .i64 0, .int .i64 0, .int .i64 0, .int .i64 0, .int .i64 0, .int .i64 0, .int .u32 0] 30); show _ = some (Obj.cells #[.int .u64 (ser : Int), .int .i64 0, .int .i64 0, .int .i64 0, .int .i64 0, .int .i64 0, .int .i64 0, .int .i64 0, .int .u32 0] 30 (0, 0)); simpa using this) _) _
  have hb4 : (((((wx.alloc (.cells #[.int .u8 1, .int .u64 (ser : Int), .slice A3 52 c3] 130)).alloc (.cells #[.int .u64 (ser : Int), .int .i64 0, .int .i64 0, .int .i64 0, .int .i64 0, .int .i64 0, .int .i64 0, .int .i64 0, .int .u32 0] 30)).alloc (.cells #[.int .i64 0] 3)).alloc (.cells #[.pointer (some ⟨wx.heap.size + 1, 0, none⟩)] 124))).heap[wx.heap.size + 1 + 1]? = some (.cells #[.int .i64 0] 3 (0, 0)) := blk_alloc (by have := blk_new (((wx.alloc (.cells #[.int .u8 1, .int .u64 (ser : Int), .slice A3 52 c3] 130)).alloc (.cells #[.int .u64 (ser : Int), .int .i64 0, .int .i64 0, .int .i64 0, .int .i64 0, .int .i64 0, .int .i64 0, .int .i64 0, .int .u32 0] 30))) (.cells #[.int .i64 0] 3); simpa using this) _
  have hb5 := blk_cell (blk_new ((((wx.alloc (.cells #[.int .u8 1, .int .u64 (ser : Int), .slice A3 52 c3] 130)).alloc (.cells #[.int .u64 (ser : Int), .int .i64 0, .int .i64 0, .int .i64 0, .int .i64 0, .int .i64 0, .int .i64 0, .int .i64 0, .int .u32 0] 30)).alloc (.cells #[.int .i64 0] 3))) (.cells #[.pointer (some ⟨wx.heap.size + 1, 0, none⟩)] 124)) 0
  rw [← hs3] at hb5
  have hbs : Bs (((((wx.alloc (.cells #[.int .u8 1, .int .u64 (ser : Int), .slice A3 52 c3] 130)).alloc (.cells #[.int .u64 (ser : Int), .int .i64 0, .int .i64 0, .int .i64 0, .int .i64 0, .int .i64 0, .int .i64 0, .int .i64 0, .int .u32 0] 30)).alloc (.cells #[.int .i64 0] 3)).alloc (.cells #[.pointer (some ⟨wx.heap.size + 1, 0, none⟩)] 124))) A3 52 c3 b := (((HBB.out.alloc _).alloc _).alloc _).alloc _
  have hbel : Below w.heap.size w (((((wx.alloc (.cells #[.int .u8 1, .int .u64 (ser : Int), .slice A3 52 c3] 130)).alloc (.cells #[.int .u64 (ser : Int), .int .i64 0, .int .i64 0, .int .i64 0, .int .i64 0, .int .i64 0, .int .i64 0, .int .i64 0, .int .u32 0] 30)).alloc (.cells #[.int .i64 0] 3)).alloc (.cells #[.pointer (some ⟨wx.heap.size + 1, 0, none⟩)] 124))) := (((hb0.alloc hb0.size _).alloc (by have := hb0.size; simp; omega) _).alloc (by have := hb0.size; simp; omega) _).alloc (by have := hb0.size; simp; omega) _
  have hws := hb0.size
  have hA3 : ∀ ad, A3 = some ad → ad.block < wx.heap.size := by
    intro ad e
    obtain ⟨ad', e', hc⟩ := HBB.out.at_ (k := 0) (by omega)
    rw [e] at e'
    cases e'
    have := World.block_lt_of_cell? _ _ hc
    unfold Addr.add at this
    split at this <;> simpa using this
  have hsz : wx.heap.size + 4 ≤ (((((wx.alloc (.cells #[.int .u8 1, .int .u64 (ser : Int), .slice A3 52 c3] 130)).alloc (.cells #[.int .u64 (ser : Int), .int .i64 0, .int .i64 0, .int .i64 0, .int .i64 0, .int .i64 0, .int .i64 0, .int .i64 0, .int .u32 0] 30)).alloc (.cells #[.int .i64 0] 3)).alloc (.cells #[.pointer (some ⟨wx.heap.size + 1, 0, none⟩)] 124))).heap.size := by simp
  generalize (((((wx.alloc (.cells #[.int .u8 1, .int .u64 (ser : Int), .slice A3 52 c3] 130)).alloc (.cells #[.int .u64 (ser : Int), .int .i64 0, .int .i64 0, .int .i64 0, .int .i64 0, .int .i64 0, .int .i64 0, .int .i64 0, .int .u32 0] 30)).alloc (.cells #[.int .i64 0] 3)).alloc (.cells #[.pointer (some ⟨wx.heap.size + 1, 0, none⟩)] 124))) = W0 at hb1 hb2 hb3 hb4 hb5 hbs hbel hsz ⊢
  obtain ⟨sx, hsx⟩ : ∃ sx, sx = wx.heap.size + 1 := ⟨_, rfl⟩
  obtain ⟨ax, hax⟩ : ∃ ax, ax = wx.heap.size + 1 + 1 := ⟨_, rfl⟩
  obtain ⟨ex, hex⟩ : ∃ ex, ex = wx.heap.size + 1 + 1 + 1 := ⟨_, rfl⟩
  clear hs3
  rw [← hex, ← hax, ← hsx]
  rw [← hax] at hb4
  rw [← hex, ← hsx] at hb5
  rw [← hsx] at hb3
  have hn1 : wx.heap.size < sx := by omega
  have hn2 : sx < ax := by omega
  have hn3 : ax < ex := by omega
  clear hsx hax hex
  refine wpIn_rangeFunc_ownF (w := W0) rfl (by omega) (gf := 94) (lb := #[.pointer (some ⟨ex, 0, none⟩)]) rfl trivial (enters_of Tryz.func94 (by kernel_rfl) rfl)
    (each_stops 8 ex sx (by omega) W0 hb5) (fun _ _ => trivial) (fun _ _ _ _ _ _ _ _ => trivial) (Below.refl _ _) (fun _ => rfl)
    (DecI (serS ser) b w A3 c3 wx.heap.size sx ax #[.int .u8 1, .int .u64 (ser : Int), .slice A3 52 c3]) (fun _ _ _ => False) (DecI_own _ _ _ _ _ _ _ _ _ _ (by omega)) (fun _ _ _ _ _ h _ _ => h)
    ⟨⟨hb1, hb2, hb3, hb4, hbs⟩, hbel⟩ (decAct A n c A3 c3 ser w.heap.size wx.heap.size sx ax ex) ?assign ?body ?done ?stop
  case assign =>
    intro l x W K hK
    simp only [eachEnc]
    gi_wp2
    exact hK
  case body =>
    rintro l pre x W ⟨⟨h1, h2, h3, h4, h5⟩, h6⟩ hlen
    have hr2 := blk_cell h2 2
    have hr8 := blk_cell h4 0
    have hf8 := blk_frozen h4 0
    have hx : W.cell? ⟨sx, x.val + 1, none⟩ = some (.int .i64 ((decSt b (serS ser) pre 0).num x)) := num_at h3 x
    have hxf := blk_frozen h3 (x.val + 1)
    simp only [List.getElem?_toArray, List.getElem?_cons_zero, List.getElem?_cons_succ] at hr2 hr8
    have hst := decSt_snoc b x pre (serS ser) 0
    rw [Nat.zero_add] at hst
    have hml : (pre ++ [x]).length * 8 = pre.length * 8 + 8 := by simp; omega
    have HML := Lib.hid hml
    have hv0 : Hid (numAt b pre.length = unle ((b.drop (pre.length * 8)).take 8)) := Lib.hid rfl
    have hmle : pre.length * 8 + 8 ≤ 52 := by omega
    have HST := Lib.hid hst
    have H1 := Lib.hid h1
    have H2 := Lib.hid h2
    have H3 := Lib.hid h3
    have H4 := Lib.hid h4
    have H5 := Lib.hid h5
    have H6 := Lib.hid h6
    clear h1 h2 h3 h4 h5 h6 hst hml hlen
    generalize numAt b pre.length = v at HST hv0
    generalize (decSt b (serS ser) pre 0).num x = u0 at hx
    generalize pre.length * 8 = m at hr8 HML hv0 hmle H4
    have hget : Hid (Calls Tryz.prog 75 #[.slice A3 52 c3, .int .i64 (m : Int), .int .i64 8] W fun e w' => e = .returned (.tuple #[.int .u64 (v : Int), .int .i64 ((m : Int) + 8), .int .i64 0]) ∧ W = w') := Lib.hid (by rw [hv0.out]; exact Get_ok A3 52 c3 b m 8 m 8 W H5.out rfl rfl (by omega) (by omega) hmle)
    have hne1 : sx ≠ ax := by omega
    have hne2 : ax ≠ sx := by omega
    obtain ⟨u, gw⟩ : ∃ u, IntKind.i64.wrap (v : Int) = u := ⟨_, rfl⟩
    have HN : Hid (w.heap.size < wx.heap.size ∧ wx.heap.size < sx ∧ sx < ax ∧ ∀ ad, A3 = some ad → ad.block < wx.heap.size) := Lib.hid ⟨by omega, by omega, by omega, hA3⟩
    clear hv0 hmle hA3 hb0 hws
    by_cases hv : v ≤ 4611686018427387904
    · have hd : ¬ (4611686018427387904 : Int) < (v : Int) := by omega
      have hd2 : decide ((4611686018427387904 : Int) < (v : Int)) = false := by simpa using hd
      unfold decAct
      gi_wp2_with (first
        | (refine ⟨trivial, ?_⟩; gi_at_call 75; refine (CallsIn.inRound l (callsIn_wide.2 hget.out)).mono ?_; rintro e2 w2 ⟨rfl, rfl⟩; dsimp only))
      have hu : u = v := by rw [← gw, IntKind.wrap_i64]; omega
      have hn := HN.out
      refine ⟨(KeepsOthers.setCell _ _ _).trans (KeepsOthers.setCell _ _ _), trivial, ⟨?_, ?_, ?_, ?_, ?_⟩, (H6.out.setCell (by simp; omega) _).setCell (by simp; omega) _⟩
      · exact blk_far (blk_far H1.out (by simp; omega) _) (by simp; omega) _
      · exact blk_far (blk_far H2.out (by simp; omega) _) (by simp; omega) _
      · rw [HST.out, set_cells, if_pos hv, ← hu]
        exact blk_far (blk_set H3.out _ _) (by simp; omega) _
      · rw [HML.out]
        simpa using blk_set (blk_far H4.out (p := ⟨sx, x.val + 1, none⟩) (by simp; omega) (.int .i64 u)) 0 (.int .i64 ((m : Int) + 8))
      · exact (H5.out.set (fun ad e => by have := hn.2.2.2 ad e; simp; omega) _).set (fun ad e => by have := hn.2.2.2 ad e; simp; omega) _
    · have hd : (4611686018427387904 : Int) < (v : Int) := by omega
      have hd2 : decide ((4611686018427387904 : Int) < (v : Int)) = true := by simpa using hd
      unfold decAct
      gi_wp2_with (first
        | (refine ⟨trivial, ?_⟩; gi_at_call 75; refine (CallsIn.inRound l (callsIn_wide.2 hget.out)).mono ?_; rintro e2 w2 ⟨rfl, rfl⟩; dsimp only))
      have hn := HN.out
      refine ⟨((KeepsOthers.setCell _ _ _).trans (KeepsOthers.setCell _ _ _)).trans (KeepsOthers.setCell _ _ _), trivial, ⟨?_, ?_, ?_, ?_, ?_⟩, ((H6.out.setCell (by simp; omega) _).setCell (by simp; omega) _).setCell (by simp; omega) _⟩
      · exact blk_far (blk_far (blk_far H1.out (by simp; omega) _) (by simp; omega) _) (by simp; omega) _
      · exact blk_far (blk_far (blk_far H2.out (by simp; omega) _) (by simp; omega) _) (by simp; omega) _
      · rw [HST.out, set_cells, if_neg hv, ← cells_set_twice _ _ (.int .i64 u)]
        exact blk_set (blk_far (blk_set H3.out _ _) (by simp; omega) _) _ _
      · rw [HML.out]
        exact blk_far (by simpa using blk_set (blk_far H4.out (p := ⟨sx, x.val + 1, none⟩) (by simp; omega) (.int .i64 u)) 0 (.int .i64 ((m : Int) + 8))) (by simp; omega) _
      · exact ((H5.out.set (fun ad e => by have := hn.2.2.2 ad e; simp; omega) _).set (fun ad e => by have := hn.2.2.2 ad e; simp; omega) _).set (fun ad e => by have := hn.2.2.2 ad e; simp; omega) _
  case done =>
    rintro D ys W hD rfl ⟨⟨h1, h2, h3, h4, h5⟩, h6⟩ hK
    have hl40 : (upto5 5).length * 8 = 40 := by rw [upto5_length 5 (by omega)]
    rw [hl40] at h4
    have hr2 := blk_cell h2 2
    have hr8 := blk_cell h4 0
    simp only [List.getElem?_toArray, List.getElem?_cons_zero, List.getElem?_cons_succ] at hr2 hr8
    generalize hS : decSt b (serS ser) (upto5 5) 0 = S at h3
    have hga := GetAll_ok A3 52 c3 b 40 4 3 40 4 3 W h5 rfl rfl rfl (by omega) (by omega) (by omega) (by omega)
    rw [getAll_low] at hga
    have hla := lowAt_lt b 0
    have hlb := lowAt_lt b 1
    have hlc := lowAt_lt b 2
    obtain ⟨S0, S1, S2, S3, S4, S5, S6, S7, S8⟩ := S
    have HFIN := Lib.hid (dec_fin l b ser HR.out HL.out S0 S1 S2 S3 S4 S5 S6 S7 S8 hS)
    have HGA := Lib.hid hga
    have H1 := Lib.hid h1
    have H2 := Lib.hid h2
    have H3 := Lib.hid h3
    have H4 := Lib.hid h4
    have H5 := Lib.hid h5
    have H6 := Lib.hid h6
    have HK := Lib.hid hK
    clear h1 h2 h3 h4 h5 h6 hga hS hl40 hK
    generalize lowAt b 0 = a at HFIN HGA hla
    generalize lowAt b 1 = st at HFIN HGA hlb
    generalize lowAt b 2 = ch at HFIN HGA hlc
    have g1 : IntKind.i64.wrap (a : Int) = a := by rw [IntKind.wrap_i64]; omega
    have g2 : IntKind.i64.wrap (st : Int) = st := by rw [IntKind.wrap_i64]; omega
    have g3 : IntKind.u32.wrap (ch : Int) = ch := by rw [IntKind.wrap_u32]; omega
    gi_wp2_with (refine ⟨trivial, ?_⟩; gi_at_call 76; go_must (refine (callsIn_wide.2 HGA.out).mono ?_; rintro e wz ⟨Az, cz, rfl, hoz, hbz⟩; have HOZ := Lib.hid hoz; have HBZ := Lib.hid hbz; clear hoz hbz))
    have hrd := Rd.of_own HOZ.out
    obtain ⟨ad, rfl, y0⟩ := hrd.at_ (k := 0) (by omega)
    obtain ⟨_, e1, y1⟩ := hrd.at_ (k := 1) (by omega)
    cases e1
    obtain ⟨_, e1, y2⟩ := hrd.at_ (k := 2) (by omega)
    cases e1
    have hadb : W.heap.size ≤ ad.block := (own_base HOZ.out ad.block rfl).1
    have hsxl := blk_lt H3.out
    have hnad1 : ad.block ≠ sx := by omega
    have hnad2 : sx ≠ ad.block := by omega
    simp only [Addr.add, if_pos, Nat.succ_ne_zero] at y0 y1 y2
    have HZ1 := Lib.hid (blk_below H1.out HBZ.out)
    have HZ3 := Lib.hid (blk_below H3.out HBZ.out)
    have x6 : wz.cell? ⟨sx, 6, none⟩ = some (.int .i64 S6) := blk_cell HZ3.out 6
    have x7 : wz.cell? ⟨sx, 7, none⟩ = some (.int .i64 S7) := blk_cell HZ3.out 7
    have x8 : wz.cell? ⟨sx, 8, none⟩ = some (.int .u32 S8) := blk_cell HZ3.out 8
    have f6 := blk_frozen HZ3.out 6
    have f7 := blk_frozen HZ3.out 7
    have f8 := blk_frozen HZ3.out 8
    replace y0 : wz.cell? ad = some (.int .u64 a) := y0
    replace y1 : wz.cell? ⟨ad.block, ad.off + 1, none⟩ = some (.int .u64 st) := y1
    replace y2 : wz.cell? ⟨ad.block, ad.off + 2, none⟩ = some (.int .u64 ch) := y2
    clear hrd hr2 hr8
    refine wpIn_onlyN ?_
    gi_region_with (fail)
    all_goals
      simp only [OnlyN]
      have hW3 := blk_sets HZ3.out (.int .i64 (a : Int)) (.int .i64 (st : Int)) (.int .u32 (ch : Int))
      have hW1 := blk_sets_far HZ1.out (show w.heap.size ≠ sx by omega) (.int .i64 (a : Int)) (.int .i64 (st : Int)) (.int .u32 (ch : Int))
      have hWD := blk_sets_far ((keeps_below HBZ.out).same D _ HK.out rfl) (show D ≠ sx from fun e => by rw [e] at HK; have := HK.out.symm.trans H3.out; cases this) (.int .i64 (a : Int)) (.int .i64 (st : Int)) (.int .u32 (ch : Int))
      have hWB := bel_sets (bthen H6.out HBZ.out) (show w.heap.size ≤ sx by omega) (.int .i64 (a : Int)) (.int .i64 (st : Int)) (.int .u32 (ch : Int))
      generalize (((wz.setCell ⟨sx, 6, none⟩ (.int .i64 (a : Int))).setCell ⟨sx, 7, none⟩ (.int .i64 (st : Int))).setCell ⟨sx, 8, none⟩ (.int .u32 (ch : Int))).drew = W9 at hW3 hW1 hWD hWB ⊢
      have HW3 := Lib.hid hW3
      have HW1 := Lib.hid hW1
      have HWD := Lib.hid hWD
      have HWB := Lib.hid hWB
      clear hW3 hW1 hWD hWB x6 x7 x8 f6 f7 f8 y0 y1 y2
      have hDn : D ≠ w.heap.size := by omega
      by_cases hok : (⟨S0, S1, S2, S3, S4, S5, a, st, ch⟩ : Sup).ok
      · have hc : Hid (Calls Tryz.prog 66 #[.agg #[.int .u64 (S0 : Int), .int .i64 S1, .int .i64 S2, .int .i64 S3, .int .i64 S4, .int .i64 S5, .int .i64 (a : Int), .int .i64 (st : Int), .int .u32 (ch : Int)]] W9 (RetI W9 0)) := Lib.hid (by have h := Check_any ⟨S0, S1, S2, S3, S4, S5, a, st, ch⟩ W9; rw [chk, if_pos hok] at h; exact h)
        have hdec := Lib.hid (HFIN.out.1 hok)
        clear hok
        gi_wp2_with (first
          | (refine wpListIn_load_blk rfl 30 _ rfl (b := sx) rfl _ rfl rfl (fun _ => by simp [go_sem, isAgg]) HW3.out ?_)
          | (refine wpListIn_load_blk rfl 30 _ rfl (b := sx) rfl _ rfl rfl (fun _ => by simp [go_sem, isAgg]) HC3.out ?_)
          | (refine ⟨trivial, ?_⟩; gi_at_call 66; refine (callsIn_wide.2 hc.out).mono ?_; rintro e9 wc ⟨rfl, hbc⟩; dsimp only; have HCB := Lib.hid hbc; have HC3 := Lib.hid (blk_below HW3.out hbc); have HC1 := Lib.hid (blk_below HW1.out hbc); have HCD := Lib.hid ((keeps_below hbc).same D _ HWD.out rfl); clear hbc)
          | (refine wpListIn_store_blk rfl 30 _ _ rfl (b := w.heap.size) rfl rfl _ rfl rfl (by simp [Value.oneCell']) HC1.out rfl ?_; intro w2 hb2 hg2 hz2; have HB2 := Lib.hid hb2; have HG2 := Lib.hid hg2; clear hb2 hg2 hz2))
        have hK2 := grown_keep HG2.out HCD.out hDn
        refine ⟨by simp, .inl ⟨_, _, rfl, run_takeDeferred hK2, ?_⟩⟩
        rw [hdec.out]
        exact dec_leave (r := (⟨S0, S1, S2, S3, S4, S5, a, st, ch⟩, 0)) HB2.out (grown_bel (bthen HWB.out HCB.out) HG2.out (Nat.le_refl _)) hK2 (by omega) rfl rfl
      · have hc : Hid (Calls Tryz.prog 66 #[.agg #[.int .u64 (S0 : Int), .int .i64 S1, .int .i64 S2, .int .i64 S3, .int .i64 S4, .int .i64 S5, .int .i64 (a : Int), .int .i64 (st : Int), .int .u32 (ch : Int)]] W9 (RetI W9 90)) := Lib.hid (by have h := Check_any ⟨S0, S1, S2, S3, S4, S5, a, st, ch⟩ W9; rw [chk, if_neg hok] at h; exact h)
        have hdec := Lib.hid (HFIN.out.2 hok)
        clear hok
        gi_wp2_with (first
          | (refine wpListIn_load_blk rfl 30 _ rfl (b := sx) rfl _ rfl rfl (fun _ => by simp [go_sem, isAgg]) HW3.out ?_)
          | (refine wpListIn_load_blk rfl 30 _ rfl (b := sx) rfl _ rfl rfl (fun _ => by simp [go_sem, isAgg]) HC3.out ?_)
          | (refine ⟨trivial, ?_⟩; gi_at_call 66; refine (callsIn_wide.2 hc.out).mono ?_; rintro e9 wc ⟨rfl, hbc⟩; dsimp only; have HCB := Lib.hid hbc; have HC3 := Lib.hid (blk_below HW3.out hbc); have HC1 := Lib.hid (blk_below HW1.out hbc); have HCD := Lib.hid ((keeps_below hbc).same D _ HWD.out rfl); clear hbc)
          | (refine wpListIn_store_blk rfl 30 _ _ rfl (b := w.heap.size) rfl rfl _ rfl rfl (by decide) HC1.out rfl ?_; intro w2 hb2 hg2 hz2; have HB2 := Lib.hid hb2; have HG2 := Lib.hid hg2; clear hb2 hg2 hz2))
        have hK2 := grown_keep HG2.out HCD.out hDn
        refine ⟨by simp, .inl ⟨_, _, rfl, run_takeDeferred hK2, ?_⟩⟩
        rw [hdec.out]
        exact dec_leave (r := (Sup.zero, 90)) HB2.out (grown_bel (bthen HWB.out HCB.out) HG2.out (Nat.le_refl _)) hK2 (by omega) rfl rfl
  case stop =>
    rintro D c pre W hD _ h _
    exact h.elim
end Go.Proofs.YtaldjmhikebecaaGreat
