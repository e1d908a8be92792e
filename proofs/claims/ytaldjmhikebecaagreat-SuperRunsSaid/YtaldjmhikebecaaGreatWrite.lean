/- Layer 8 (sector): Write. -/
import Derived.Test.YtaldjmhikebecaaGreatPower
import Derived.Test.YtaldjmhikebecaaGreatOct
namespace Go.Proofs.YtaldjmhikebecaaGreat
open Go Go.RowKit
set_option maxRecDepth 100000
set_option linter.unusedVariables false
attribute [local go_sem] Oper.semAt_some
def Dsk.chunk (k : Dsk) (l : List UInt8) (x : Nat) : List UInt8 := (l.drop (x * k.size)).take k.size
/-- Chunks written, one behind the other. -/
def Dsk.putL (k : Dsk) (i : Nat) (l : List UInt8) : List Nat → Dsk
  | [] => k
  | x :: r => (k.put i (k.chunk l x)).putL (i + 1) l r
theorem putL_snoc (l : List UInt8) (x : Nat) : ∀ (pre : List Nat) (k : Dsk) (i : Nat), k.putL i l (pre ++ [x]) = (k.putL i l pre).put (i + pre.length) (k.chunk l x)
  | [], k, i => rfl
  | y :: pre, k, i => by
    simp only [List.cons_append, Dsk.putL, List.length_cons]
    rw [putL_snoc l x pre, show i + 1 + pre.length = i + (pre.length + 1) from by omega]
    rfl
theorem putL_dims (l : List UInt8) : ∀ (pre : List Nat) (k : Dsk) (i : Nat), (k.putL i l pre).n = k.n ∧ (k.putL i l pre).size = k.size
  | [], k, i => ⟨rfl, rfl⟩
  | y :: pre, k, i => putL_dims l pre _ _
def vals {m : Nat} (pre : List (Fin m)) : List Nat := pre.map (·.val)
theorem putL_upto (k : Dsk) (i : Nat) (l : List UInt8) (m : Nat) : ∀ j, j ≤ m → k.putL i l (vals (uptoN m j)) = k.puts i l j
  | 0, _ => rfl
  | j + 1, h => by
    rw [uptoN_succ m j h, vals, List.map_append, List.map_cons, List.map_nil]
    show k.putL i l (vals (uptoN m j) ++ [j]) = _
    rw [putL_snoc, putL_upto k i l m j (by omega)]
    simp only [Dsk.puts, vals, List.length_map, uptoN_length m j (by omega)]
    rfl
theorem chunk_bs {W : World} {A : Option Addr} {n c m s : Nat} {l : List UInt8} (h : Bs W A n c l) (hn : n = m * s) (hs : 1 ≤ s) {x : Nat} (hx : x < m) : Bs W (A.map (·.add (x * s))) s s ((l.drop (x * s)).take s) := by
  have h1 : (x + 1) * s ≤ m * s := Nat.mul_le_mul_right s hx
  rw [Nat.add_mul, Nat.one_mul] at h1
  have hc := h.2.1
  have hm := h.2.2.1
  have := h.drop (k := x * s) (by omega)
  rw [if_neg (by omega)] at this
  exact this.take (by omega) s (Nat.le_refl _) (by omega)
structure WrI (X : Nat → Prop) (w : World) (d fb lb bb c : Nat) (k : Dsk) (A : Option Addr) (n c' : Nat) (l : List UInt8) (x : Nat) (W : World) : Prop where
  b0 : W.heap[w.heap.size]? = some (.cells #[.pointer (some ⟨d, 0, none⟩)] 36 (0, 0))
  b1 : W.heap[w.heap.size + 1]? = some (.cells #[.int .i64 (x : Int)] 3 (0, 0))
  disk : OnDisk X W d fb lb bb c k
  touch : Touch (fun b => b = d ∨ b = lb) w W
  bs : Bs W A n c' l
theorem WrI.own {w : World} {d fb lb bb c : Nat} {k : Dsk} {X : Nat → Prop} {A : Option Addr} {n c' : Nat} {l : List UInt8} {x : Nat} {W W' : World} {B : Nat} {row : Option Nat} (h : WrI X w d fb lb bb c k A n c' l x W) (hd : d < w.heap.size ∧ fb < w.heap.size ∧ lb < w.heap.size ∧ bb < w.heap.size) (hg : W.grownBy W' row) (hr : ∀ r, row = some r → B ≤ r ∧ ∃ o : Obj, W.heap[r]? = some o ∧ o.isCells = false) (hB : w.heap.size + 2 ≤ B) : WrI X w d fb lb bb c k A n c' l x W' := by
  have t : Touch (fun b => row = some b) W W' := Touch.of_grown hg fun k hk => hk
  have hno : ∀ b, b < w.heap.size + 2 → ¬ row = some b := fun b hb e => by have := (hr b e).1; omega
  refine ⟨t.blk h.b0 (hno _ (by omega)), t.blk h.b1 (hno _ (by omega)), ?_, ?_, ?_⟩
  · refine h.disk.kept t (hno _ (by omega)) (hno _ (by omega)) (hno _ (by omega)) (hno _ (by omega)) ?_
    intro i hi
    obtain ⟨_, o2, ho2, hc⟩ := hr i hi
    exact .inl (noByte_other ho2 hc)
  · exact ⟨t.os.trans h.touch.os, t.tape.trans h.touch.tape, t.output.trans h.touch.output, Nat.le_trans h.touch.size t.size, fun b hb hn => (t.block b (Nat.lt_of_lt_of_le hb h.touch.size) (hno b (by omega))).trans (h.touch.block b hb hn)⟩
  · refine h.bs.keep fun a v hv => t.cell hv ?_
    intro e
    obtain ⟨_, o2, ho2, hc⟩ := hr _ e
    unfold World.cell? at hv
    rw [ho2] at hv
    cases o2 <;> simp_all [Obj.isCells]
def wAct (d i n s m b0 bs : Nat) (A : Option Addr) (c' : Nat) (ch : Value) : Act := { tmps := #[Value.pointer (some ⟨d, 0, none⟩), .int .i64 (i : Int), .slice A n c', .pointer (some ⟨b0, 0, none⟩), .pointer (some ⟨b0 + 1, 0, none⟩), undef, .int .i64 0, .int .i64 0, ch, Value.pointer (some ⟨d, 0, none⟩), .bool true, .bool false, .slice A n c', .int .i64 (n : Int), Value.pointer (some ⟨d, 0, none⟩), Value.pointer (some ⟨d, 0, none⟩), Value.pointer (some ⟨d, 1, none⟩), .int .i64 (s : Int), .int .i64 0, .bool false, Value.pointer (some ⟨d, 0, none⟩), .int .i64 (i : Int), .slice A n c', .int .i64 (n : Int), Value.pointer (some ⟨d, 0, none⟩), Value.pointer (some ⟨d, 0, none⟩), Value.pointer (some ⟨d, 1, none⟩), .int .i64 (s : Int), .int .i64 (m : Int), .bool true, .bool false, Value.pointer (some ⟨d, 0, none⟩), .int .i64 0, .int .i64 0, .bool false, undef, .slice A n c', Value.pointer (some ⟨d, 0, none⟩), Value.pointer (some ⟨d, 0, none⟩), Value.pointer (some ⟨d, 1, none⟩), .int .i64 (s : Int), .func (.func 101) #[] #[.pointer (some ⟨bs, 0, none⟩), .pointer (some ⟨bs + 1, 0, none⟩)], ch, undef, undef, undef, undef, undef, undef, undef, undef, undef], defers := [] }
theorem WrI.below {w : World} {d fb lb bb c : Nat} {k : Dsk} {X : Nat → Prop} {A : Option Addr} {n c' : Nat} {l : List UInt8} {x : Nat} {W W' : World} (h : WrI X w d fb lb bb c k A n c' l x W) (hb : Below W.heap.size W W') : WrI X w d fb lb bb c k A n c' l x W' :=
  ⟨blk_below h.b0 hb, blk_below h.b1 hb, h.disk.below hb, h.touch.trans (Touch.of_below hb), h.bs.below hb⟩
theorem Bs.setp {w : World} {A : Option Addr} {n c : Nat} {l : List UInt8} (h : Bs w A n c l) {p : Addr} (hA : 0 < n → ∀ ad, A = some ad → ad.block ≠ p.block) (v : Value) : Bs (w.setCell p v) A n c l := by
  rcases Nat.eq_zero_or_pos n with h0 | h0
  · exact ⟨h.1, h.2.1, h.2.2.1, fun h1 => absurd h1 (by omega)⟩
  · exact h.set (hA h0) v
theorem WrI.setx {w : World} {d fb lb bb c : Nat} {k : Dsk} {X : Nat → Prop} {A : Option Addr} {n c' : Nat} {l : List UInt8} {x : Nat} {W : World} (h : WrI X w d fb lb bb c k A n c' l x W) (hlts : d < w.heap.size ∧ fb < w.heap.size ∧ lb < w.heap.size ∧ bb < w.heap.size) (hA : 0 < n → ∀ ad, A = some ad → ad.block ≠ d ∧ ad.block < w.heap.size) (y : Nat) :
    WrI X w d fb lb bb c k A n c' l y (W.setCell ⟨w.heap.size + 1, 0, none⟩ (.int .i64 (y : Int))) := by
  have t : Touch (fun b => b = w.heap.size + 1) W (W.setCell ⟨w.heap.size + 1, 0, none⟩ (.int .i64 (y : Int))) := Touch.of_set W _ rfl
  refine ⟨blk_far h.b0 (by simp) _, by simpa using blk_set h.b1 0 (.int .i64 (y : Int)), ?_, ?_, h.bs.setp (fun h0 ad e => by have := (hA h0 ad e).2; simp; omega) _⟩
  · refine h.disk.kept t (by omega) (by omega) (by omega) (by omega) ?_
    rintro i rfl
    exact .inl (noByte_cells h.b1 (by intro v; simp))
  · exact ⟨t.os.trans h.touch.os, t.tape.trans h.touch.tape, t.output.trans h.touch.output, Nat.le_trans h.touch.size t.size, fun b hb hn => (t.block b (Nat.lt_of_lt_of_le hb h.touch.size) (by omega)).trans (h.touch.block b hb hn)⟩
theorem frozen_block {W W' : World} {p : Addr} (h : W'.heap[p.block]? = W.heap[p.block]?) : W'.frozen? p = W.frozen? p := by unfold World.frozen?; rw [h]
def wAct2 (d i n s m b0 bs : Nat) (A : Option Addr) (c' : Nat) (ch : Value) (lb q : Nat) (v2 : Value) : Act := { tmps := #[Value.pointer (some ⟨d, 0, none⟩), .int .i64 (i : Int), .slice A n c', .pointer (some ⟨b0, 0, none⟩), .pointer (some ⟨b0 + 1, 0, none⟩), undef, .int .i64 0, .int .i64 0, ch, Value.pointer (some ⟨d, 0, none⟩), .bool true, .bool false, .slice A n c', .int .i64 (n : Int), Value.pointer (some ⟨d, 0, none⟩), Value.pointer (some ⟨d, 0, none⟩), Value.pointer (some ⟨d, 1, none⟩), .int .i64 (s : Int), .int .i64 0, .bool false, Value.pointer (some ⟨d, 0, none⟩), .int .i64 (i : Int), .slice A n c', .int .i64 (n : Int), Value.pointer (some ⟨d, 0, none⟩), Value.pointer (some ⟨d, 0, none⟩), Value.pointer (some ⟨d, 1, none⟩), .int .i64 (s : Int), .int .i64 (m : Int), .bool true, .bool false, Value.pointer (some ⟨d, 0, none⟩), .int .i64 0, .int .i64 0, .bool false, undef, .slice A n c', Value.pointer (some ⟨d, 0, none⟩), Value.pointer (some ⟨d, 0, none⟩), Value.pointer (some ⟨d, 1, none⟩), .int .i64 (s : Int), .func (.func 101) #[] #[.pointer (some ⟨bs, 0, none⟩), .pointer (some ⟨bs + 1, 0, none⟩)], ch, Value.pointer (some ⟨d, 0, none⟩), Value.pointer (some ⟨d, 0, none⟩), .pointer (some ⟨d, 3, none⟩), .map (some lb), .int .i64 (q : Int), ch, v2, undef, undef], defers := [] }
/-- What the clone and the store have left. -/
structure Stored (W : World) (s lb c q : Nat) (D : DataW Value) (ch : List UInt8) (A2 : Option Addr) (c2 : Nat) (w2 w3 : World) : Prop where
  below : Below W.heap.size W w2
  own : w2.ownsRow W.heap.size 5 1 (.slice A2 s c2) s (bytes ch)
  map : w3.ownsMap Tryz.prog 3 rawR lb (c + 1) (D.put (key q) (.held (.slice A2 s c2)))
  grown : w2.grownBy w3 (some lb)
theorem wr_round {w W w2 w3 W0 : World} {d fb lb bb c c2 : Nat} {k k' : Dsk} {X : Nat → Prop} {A A2 : Option Addr} {n c' i q q2 m bs : Nat} {l : List UInt8} {pre : List (Fin m)} {x : Fin m} {D : DataW Value}
    (hI : WrI X w d fb lb bb (c + pre.length) (k'.putL i l (vals pre)) A n c' l q W) (hm : W.ownsMap Tryz.prog 3 rawR lb (c + pre.length) D) (hl : LooseAt X W (k'.putL i l (vals pre)) D) (hbw : Below W.heap.size W w2)
    (ho2 : w2.ownsRow W.heap.size 5 1 (.slice A2 k.size c2) k.size (bytes ((l.drop (x.val * k.size)).take k.size)))
    (hlts : d < w.heap.size ∧ fb < w.heap.size ∧ lb < w.heap.size ∧ bb < w.heap.size) (hA : 0 < n → ∀ ad, A = some ad → ad.block ≠ d ∧ ad.block < w.heap.size) (hdim : (k'.putL i l (vals pre)).size = k.size)
    (ho3 : w3.ownsMap Tryz.prog 3 rawR lb (c + pre.length + 1) (D.put (key q) (.held (.slice A2 k.size c2)))) (hg3 : w2.grownBy w3 (some lb)) (hk : k'.size = k.size) (hq : q = i + pre.length) (hq2 : q2 = q + 1) (hc : c + pre.length + 1 < 1099511627776)
    (hqn : q < (k'.putL i l (vals pre)).n) (hsy : bs + 2 ≤ W0.heap.size) (hsw0 : W0.heap.size ≤ W.heap.size) (hbs : w.heap.size + 1 < bs) :
    KeepsFrom W0.heap.size W (w3.setCell ⟨w.heap.size + 1, 0, none⟩ (.int .i64 (q2 : Int))) ∧ KeepC bs (bs + 1) W (w3.setCell ⟨w.heap.size + 1, 0, none⟩ (.int .i64 (q2 : Int))) ∧
      WrI X w d fb lb bb (c + (pre ++ [x]).length) (k'.putL i l (vals (pre ++ [x]))) A n c' l (i + (pre ++ [x]).length) (w3.setCell ⟨w.heap.size + 1, 0, none⟩ (.int .i64 (q2 : Int))) := by
  have hwi := hI.below hbw
  have hmw := own_map_block hm (hbw.block lb hm.lt)
  have hlw : LooseAt X w2 (k'.putL i l (vals pre)) D := hl.kept fun A n c l hB _ => hB.below hbw
  have hA2 : ∀ ad, A2 = some ad → W.heap.size ≤ ad.block := fun ad e => by subst e; exact (own_base ho2 ad.block rfl).1
  have hsw := hbw.size
  have hlts3 := hI.disk.lts
  have nomap : ∀ a v, w2.cell? a = some v → w3.cell? a = some v := fun a v hv => hg3.cell hv (by intro e; have e := Option.some.inj e; obtain ⟨es, cl, ho⟩ := own_map_obj hmw; unfold World.cell? at hv; rw [e, ho] at hv; cases hv)
  have hd3 := hwi.disk.put hmw hlw (i := q) (by rw [hdim]; exact ho3) hg3 (by rw [hdim]; exact (Bs.of_own ho2).keep nomap) (fun ad e hx => by have := hA2 ad e; have := hI.disk.xlt _ hx; omega) hc hqn
  have hw3 : WrI X w d fb lb bb (c + (pre ++ [x]).length) (k'.putL i l (vals (pre ++ [x]))) A n c' l q w3 := by
    refine ⟨(hg3.block _ (blk_lt hwi.b0) (by simp; omega)).trans hwi.b0, (hg3.block _ (blk_lt hwi.b1) (by simp; omega)).trans hwi.b1, ?_, hwi.touch.trans (Touch.of_grown hg3 (fun k hk => .inr (Option.some.inj hk).symm)), hwi.bs.keep nomap⟩
    rw [show vals (pre ++ [x]) = vals pre ++ [x.val] from by simp [vals], putL_snoc, show (vals pre).length = pre.length from by simp [vals], ← hq, show c + (pre ++ [x]).length = c + pre.length + 1 from by simp; omega, show (k'.chunk l x.val) = (l.drop (x.val * k.size)).take k.size from by rw [Dsk.chunk, hk]]
    exact hd3
  have hw4 := hw3.setx hlts hA q2
  have e : i + (pre ++ [x]).length = q2 := by rw [hq2, hq]; simp; omega
  rw [e]
  have hs3 := hg3.size
  refine ⟨?_, ?_, hw4⟩
  · exact (((keeps_below hbw).from _).trans (KeepsFrom.of_grownBy hg3 (fun j hj => by cases hj; omega))).trans ((KeepsOthers.setCell _ _ _).from _)
  · refine ⟨?_, ?_⟩
    · rw [Below.heap_setCell _ _ _ _ (by simp; omega), hg3.block _ (by omega) (by simp; omega), hbw.block _ (by omega)]
    · rw [Below.heap_setCell _ _ _ _ (by simp; omega), hg3.block _ (by omega) (by simp; omega), hbw.block _ (by omega)]
set_option maxHeartbeats 2000000 in
theorem DWrite_ok {w : World} {d fb lb bb c : Nat} {k : Dsk} {X : Nat → Prop} (h : OnDisk X w d fb lb bb c k) (A : Option Addr) (n c' : Nat) (l : List UInt8) (hB : Bs w A n c' l) (hA : 0 < n → ∀ ad, A = some ad → ad.block ≠ d ∧ ad.block < w.heap.size) (i m : Nat) (hm : n = m * k.size) (hi : i + m ≤ k.n) (hon : k.on) (hc : c + m < 1099511627776) :
    Calls Tryz.prog 39 #[.pointer (some ⟨d, 0, none⟩), .int .i64 (i : Int), .slice A n c'] w fun e w' => e = .returned (.int .i64 0) ∧ OnDisk X w' d fb lb bb (c + m) (k.less.puts i l m) ∧ Touch (fun b => b = d ∨ b = lb) w w' := by
  have hlts := h.lts
  have hs1 := h.s1
  have hs2 := h.s2
  have hn2 := h.n2
  have hnb : n ≤ 65536 * 8192 := by rw [hm]; exact Nat.mul_le_mul (by omega) hs2
  have H0 : OnDisk X ((w.alloc (.cells #[.pointer (some ⟨d, 0, none⟩)] 36)).alloc (.cells #[.int .i64 (i : Int)] 3)) d fb lb bb c k := (h.alloc _).alloc _
  have hB0 : Bs ((w.alloc (.cells #[.pointer (some ⟨d, 0, none⟩)] 36)).alloc (.cells #[.int .i64 (i : Int)] 3)) A n c' l := (hB.alloc _).alloc _
  have q0 := blk_alloc (blk_new w (.cells #[.pointer (some ⟨d, 0, none⟩)] 36)) (.cells #[.int .i64 (i : Int)] 3)
  have q1 := blk_new (w.alloc (.cells #[.pointer (some ⟨d, 0, none⟩)] 36)) (.cells #[.int .i64 (i : Int)] 3)
  simp only [World.size_alloc] at q1
  have HMADE := Lib.hid (disk_made H0)
  have hin := fun q : Nat => in_any d (k.n : Int) (i : Int) (m : Int) _ ((H0.below (below_drewN (Below.refl _ _) q)).cell 0) (by omega) (by omega) (by omega) (by omega)
  rw [show decide ((0 : Int) ≤ i ∧ (0 : Int) ≤ m ∧ (i : Int) ≤ k.n ∧ (m : Int) ≤ k.n - i) = true from by simp; omega] at hin
  have ht0 : Touch (fun b => b = d ∨ b = lb) w ((w.alloc (.cells #[.pointer (some ⟨d, 0, none⟩)] 36)).alloc (.cells #[.int .i64 (i : Int)] 3)) := Touch.of_below (((Below.refl _ w).alloc (Nat.le_refl _) _).alloc (by simp) _)
  have HPOW : Hid (∀ q : Nat, Calls Tryz.prog 41 #[.pointer (some ⟨d, 0, none⟩)] (((w.alloc (.cells #[.pointer (some ⟨d, 0, none⟩)] 36)).alloc (.cells #[.int .i64 (i : Int)] 3)).drewN q) fun e w' => e = .returned (.int .i64 0) ∧ WrI X w d fb lb bb c k.less A n c' l i w') := Lib.hid fun q => by
    have Hq := H0.below (below_drewN (Below.refl _ _) q)
    refine (power_on Hq hon).mono ?_
    rintro e w' ⟨rfl, rfl⟩
    refine ⟨rfl, ⟨blk_far q0 (by simp; omega) _, blk_far q1 (by simp; omega) _, Hq.less, ?_, ?_⟩⟩
    · exact (ht0.trans (Touch.of_below (below_drewN (Below.refl _ _) q))).trans (Touch.of_set _ _ (.inl rfl))
    · exact (hB0.drewN q).setp (fun h0 ad e => (hA h0 ad e).1) _
  have d1 : ((w.alloc (.cells #[.pointer (some ⟨d, 0, none⟩)] 36)).alloc (.cells #[.int .i64 (i : Int)] 3)).cell? ⟨d, 1, none⟩ = some (.int .i64 (k.size : Int)) := H0.cell 1
  have g0 : ((w.alloc (.cells #[.pointer (some ⟨d, 0, none⟩)] 36)).alloc (.cells #[.int .i64 (i : Int)] 3)).cell? ⟨w.heap.size, 0, none⟩ = some (.pointer (some ⟨d, 0, none⟩)) := blk_cell q0 0
  have g1 : ((w.alloc (.cells #[.pointer (some ⟨d, 0, none⟩)] 36)).alloc (.cells #[.int .i64 (i : Int)] 3)).cell? ⟨w.heap.size + 1, 0, none⟩ = some (.int .i64 (i : Int)) := blk_cell q1 0
  have hrem : (n : Int) % (k.size : Int) = 0 := by rw [hm]; simp
  have hquo : (n : Int) / (k.size : Int) = (m : Int) := by rw [hm]; push_cast; rw [Int.mul_ediv_cancel _ (by omega)]
  have HIN := Lib.hid hin
  have HC := Lib.hid hc
  have HM := Lib.hid hm
  have HK := Lib.hid (show k.less.size = k.size from rfl)
  have HKN := Lib.hid (show k.less.n = k.n from rfl)
  clear hin h hB hB0 H0 hm hc q0 q1 ht0
  generalize k.less = k' at HPOW HK HKN ⊢
  refine callsIn_wide.1 (callsIn_of_wp_marks (n := 9) Tryz.func39 rfl trivial ?_ rfl)
  simp only [Tryz.ntmps39, List.size_toArray, List.length_cons, List.length_nil, Nat.reduceAdd, Nat.reduceSub, Array.replicate_succ, Array.replicate_zero, List.push_toArray, List.append_toArray, List.nil_append, List.cons_append]
  gi_wp2_with (refine ⟨trivial, ?_⟩; gi_at_call 40; refine (callsIn_wide.2 HMADE.out).mono ?_; rintro e wx ⟨rfl, hwx⟩; obtain rfl := hwx.symm)
  refine wpIn_wide.2 ?_
  go_quiet ((go_at_call 71; refine Calls.quiet_of_same (HIN.out _)))
  rename_i nq
  have HP := Lib.hid (HPOW.out nq)
  have g2 : (((w.alloc (.cells #[.pointer (some ⟨d, 0, none⟩)] 36)).alloc (.cells #[.int .i64 (i : Int)] 3)).drewN nq).cell? ⟨w.heap.size, 0, none⟩ = some (.pointer (some ⟨d, 0, none⟩)) := g0
  clear HPOW HIN HMADE d1 g0 g1
  generalize (((w.alloc (.cells #[.pointer (some ⟨d, 0, none⟩)] 36)).alloc (.cells #[.int .i64 (i : Int)] 3)).drewN nq) = W1 at HP g2 ⊢
  gi_wp2_with (first
    | (refine ⟨trivial, ?_⟩; gi_at_call 41; refine (callsIn_wide.2 HP.out).mono ?_; rintro e wx ⟨rfl, hwx⟩; have HW := Lib.hid hwx; clear hwx g2; have g3 : wx.cell? ⟨w.heap.size, 0, none⟩ = some (.pointer (some ⟨d, 0, none⟩)) := blk_cell HW.out.b0 0; have g4 : wx.cell? ⟨d, 1, none⟩ = some (.int .i64 (k.size : Int)) := HK.out ▸ HW.out.disk.cell 1)
    | (refine ⟨trivial, ?_⟩; gi_at_call 72; refine (callsIn_wide.2 (chunk_any A n c' k.size hs1 _)).mono ?_; rintro e wy ⟨rfl, hwy⟩))
  obtain rfl := hwy
  have hsz := blk_lt HW.out.b1
  have hw0 := HW.out.own (B := w.heap.size + 2) (row := none) hlts (World.grownBy_alloc wx (.cells #[.slice A n c'] 51) none) (fun r e => by cases e) (Nat.le_refl _)
  have hw1 := hw0.own (B := w.heap.size + 2) (row := none) hlts (World.grownBy_alloc (wx.alloc (.cells #[.slice A n c'] 51)) (.cells #[.int .i64 (k.size : Int)] 3) none) (fun r e => by cases e) (Nat.le_refl _)
  have cs : ((wx.alloc (.cells #[.slice A n c'] 51)).alloc (.cells #[.int .i64 (k.size : Int)] 3)).cell? ⟨wx.heap.size, 0, none⟩ = some (.slice A n c') := blk_cell (blk_alloc (blk_new wx (.cells #[.slice A n c'] 51)) (.cells #[.int .i64 (k.size : Int)] 3)) 0
  have cn := blk_new (wx.alloc (.cells #[.slice A n c'] 51)) (.cells #[.int .i64 (k.size : Int)] 3)
  simp only [World.size_alloc] at cn
  have cn : ((wx.alloc (.cells #[.slice A n c'] 51)).alloc (.cells #[.int .i64 (k.size : Int)] 3)).cell? ⟨wx.heap.size + 1, 0, none⟩ = some (.int .i64 (k.size : Int)) := blk_cell cn 0
  have hsy : wx.heap.size + 2 ≤ ((wx.alloc (.cells #[.slice A n c'] 51)).alloc (.cells #[.int .i64 (k.size : Int)] 3)).heap.size := by simp
  clear hw0 g3 g4
  generalize ((wx.alloc (.cells #[.slice A n c'] 51)).alloc (.cells #[.int .i64 (k.size : Int)] 3)) = W0 at hw1 cs cn hsy ⊢
  refine wpIn_rangeFunc_ownG (w := W0) rfl (by omega) (gf := 101) (lb := #[.pointer (some ⟨wx.heap.size, 0, none⟩), .pointer (some ⟨wx.heap.size + 1, 0, none⟩)]) rfl trivial (enters_of Tryz.func101 (by kernel_rfl) rfl)
    (chunk_stops 8 wx.heap.size (wx.heap.size + 1) (by omega) A c' k.size m n HM.out hs1 hs2 hw1.bs.2.1 (by omega) W0 cs cn) (fun h1 h2 => ⟨h2.s.trans h1.s, h2.n.trans h1.n⟩)
    (fun W l o o' hl hk _ _ => ⟨(grownBy_putObj' W l o').block _ (by have := blk_lt hk; omega) (by simp; omega), (grownBy_putObj' W l o').block _ (by have := blk_lt hk; omega) (by simp; omega)⟩) (Below.refl _ _) (fun _ => rfl)
    (fun pre W => WrI X w d fb lb bb (c + pre.length) (k'.putL i l (vals pre)) A n c' l (i + pre.length) W ∧ W0.heap.size ≤ W.heap.size) (fun _ _ _ => False)
    (fun pre X Y row hs hg hr => ⟨hs.1.own hlts hg hr (by omega), Nat.le_trans hs.2 hg.size⟩) (fun _ _ _ _ _ h _ _ => h)
    ⟨hw1, Nat.le_refl _⟩ (fun x => wAct d i n k.size m w.heap.size wx.heap.size A c' (.slice (A.map (·.add (x.val * k.size))) k.size k.size)) ?assign ?body ?done ?stop
  case assign =>
    intro l2 x W K hK
    simp only [chunkEnc]
    gi_wp2
    exact hK
  case body =>
    rintro l2 pre x W ⟨hI, hsw0⟩ hlen
    have HSW := Lib.hid hsw0
    clear hsw0
    have q0 : W.cell? ⟨w.heap.size, 0, none⟩ = some (.pointer (some ⟨d, 0, none⟩)) := blk_cell hI.b0 0
    obtain ⟨q, hq⟩ : ∃ q, q = i + pre.length := ⟨_, rfl⟩
    rw [← hq] at hI
    have hqn : q < k.n := by omega
    have q1 : W.cell? ⟨w.heap.size + 1, 0, none⟩ = some (.int .i64 (q : Int)) := blk_cell hI.b1 0
    have qf : W.frozen? ⟨w.heap.size + 1, 0, none⟩ = false := blk_frozen hI.b1 0
    have q3 : W.cell? ⟨d, 3, none⟩ = some (.map (some lb)) := hI.disk.cell 3
    have hdim := putL_dims l (vals pre) k' i
    have HDIM := Lib.hid (hdim.2.trans HK.out)
    have HQN := Lib.hid (show q < (k'.putL i l (vals pre)).n by rw [hdim.1, HKN.out]; exact hqn)
    have hbs := chunk_bs hI.bs HM.out hs1 x.isLt
    have HBC := Lib.hid (fun (W1 : World) h => BClone_any (A.map (·.add (x.val * k.size))) k.size k.size ((l.drop (x.val * k.size)).take k.size) W1 h (by omega))
    have HBS := Lib.hid hbs
    obtain ⟨D, hm1, hl1⟩ := hI.disk.loo
    have HM1 := Lib.hid hm1
    have HL1 := Lib.hid hl1
    have HI := Lib.hid hI
    have hkey := Lib.hid (key_of q (by omega))
    have hwr : IntKind.i64.wrap ((q : Int) + 1) = ((q + 1 : Nat) : Int) := by rw [IntKind.wrap_i64]; omega
    have HQ := Lib.hid hq
    have hszb := blk_lt hI.b1
    have HLEN := Lib.hid hlen
    clear hbs hm1 hl1 hI hdim hq hlen
    obtain ⟨q2, hq2⟩ : ∃ q2 : Nat, q2 = q + 1 := ⟨_, rfl⟩
    rw [← hq2] at hwr
    have HQ2 := Lib.hid hq2
    clear hq2
    unfold wAct
    dsimp only
    generalize A.map (·.add (x.val * k.size)) = A9 at HBC HBS ⊢
    gi_wp2_with fail
    refine wpIn_onlyN ?_
    refine wpIn_mono (Q := OnlyN (fun a' w' => ∃ A2 c2 w2, Stored W k.size lb (c + pre.length) q D ((l.drop (x.val * k.size)).take k.size) A2 c2 w2 w' ∧ a' = wAct2 d i n k.size m w.heap.size wx.heap.size A c' (.slice A9 k.size k.size) lb q (.slice A2 k.size c2))) ?_ ?_
    · gi_region_with (refine ⟨trivial, ?_⟩; gi_at_call 43; refine (CallsIn.inRound l2 (callsIn_wide.2 (HBC.out _ (by exact HBS.out)))).mono ?_; rintro e2 w2 ⟨A2, c2, rfl, ho2, hb2⟩; have r0 := cell_keep hb2 q0; have r1 := cell_keep hb2 q1; have r3 := cell_keep hb2 q3; have hbx : Below W.heap.size W w2 := (Below.refl _ W).drew.trans hb2; obtain ⟨w3, hrun, ho3, hg3⟩ := (own_map_block HM1.out (hbx.block lb HM1.out.lt)).update int_law Tryz.underlying77 (by have := HC.out; have := HLEN.out; unfold maxLen; omega) hkey.out (show rawR (.slice A2 k.size c2) = some (.held (.slice A2 k.size c2), []) from rfl); have HST := Lib.hid (show Stored W k.size lb (c + pre.length) q D ((l.drop (x.val * k.size)).take k.size) A2 c2 w2 w3 from ⟨hbx, ho2, ho3, hg3⟩); clear ho2 hb2 hbx ho3 hg3 q0 q1 q3)
      all_goals exact ⟨A2, c2, w2, HST.out, rfl⟩
    · intro e a' w3 hh
      cases e <;> first | exact hh.elim | skip
      obtain ⟨A2, c2, w2, hst, rfl⟩ := hh
      have r1 := hst.grown.cell (cell_keep hst.below q1) (by simp; omega)
      have rf := (frozen_block (p := ⟨w.heap.size + 1, 0, none⟩) (hst.grown.block (w.heap.size + 1) (by have := hst.below.size; omega) (by simp; omega))).trans ((hst.below.frozen (p := ⟨w.heap.size + 1, 0, none⟩) hszb).trans qf)
      have HST := Lib.hid hst
      clear hst q0 q1 q3 qf
      show OnlyN _ _ _ _
      unfold wAct2
      simp only [OnlyN]
      gi_wp2
      have hr := wr_round HI.out HM1.out HL1.out HST.out.below HST.out.own hlts hA HDIM.out HST.out.map HST.out.grown HK.out HQ.out HQ2.out (by have := HC.out; have := HLEN.out; omega) HQN.out hsy HSW.out hsz
      exact ⟨hr.1, hr.2.1, hr.2.2, Nat.le_trans HSW.out hr.1.size⟩
  case done =>
    rintro D ys W hD rfl ⟨hI, _⟩ hK
    have HI := Lib.hid hI
    clear hI
    have HKK := Lib.hid hK
    clear hK
    gi_wp2
    refine ⟨by simp, .inl ⟨_, _, rfl, run_takeDeferred HKK.out, ?_⟩⟩
    have hg := grownBy_putObj' W D (.deferred none)
    have hrr : ∀ r, some D = some r → w.heap.size + 2 ≤ r ∧ ∃ o : Obj, W.heap[r]? = some o ∧ o.isCells = false := fun r e => by cases e; exact ⟨by omega, _, HKK.out, rfl⟩
    have hfin := HI.out.own hlts hg hrr (Nat.le_refl _)
    rw [uptoN_length m m (Nat.le_refl _), putL_upto k' i l m m (Nat.le_refl _)] at hfin
    exact ⟨_, results_tmp rfl _ _ _, rfl, hfin.disk, hfin.touch⟩
  case stop =>
    rintro D c pre W hD _ h _
    exact h.elim
end Go.Proofs.YtaldjmhikebecaaGreat
