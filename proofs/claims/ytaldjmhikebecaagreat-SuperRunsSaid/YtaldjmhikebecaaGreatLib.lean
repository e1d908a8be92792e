/- Words on memory for this seat's proofs: slices that are read, rows that a call owns, worlds in which only some blocks have changed. No program. -/
import Derived.WalkKit
import Derived.Handy
import Derived.Laws.AppendOwnNone
import Derived.Lib.Hide
import Derived.WalkSmall
import Derived.Laws.BytesString
import Derived.Laws.BytesArg
namespace Go.Proofs.YtaldjmhikebecaaGreat
open Go Go.RowKit

/-! ### 1. A slice that is read -/
def Rd (w : World) (size : Nat) (A : Option Addr) (n c : Nat) (xs : List Value) : Prop :=
  xs.length = n * size ∧ n ≤ c ∧ c ≤ maxLen ∧ (0 < n → ∃ ad, A = some ad ∧ ∀ j u, xs[j]? = some u → w.cell? (ad.add j) = some u)
section
variable {w w' : World} {size n c : Nat} {A : Option Addr} {xs : List Value}
theorem add_add' (a : Addr) (i j : Nat) : (a.add i).add j = a.add (i + j) := by
  unfold Addr.add
  by_cases hi : i = 0 <;> by_cases hj : j = 0 <;> simp [hi, hj, Nat.add_assoc]
theorem block_add (a : Addr) (n : Nat) : (a.add n).block = a.block := by unfold Addr.add; split <;> rfl
theorem cell_keep (hb : Below w.heap.size w w') {a : Addr} {v : Value} (hc : w.cell? a = some v) : w'.cell? a = some v := (hb.cell (World.block_lt_of_cell? w a hc)).trans hc
theorem bcell {W w1 : World} (hb : Below W.heap.size W w1) : (∀ b o, b < W.heap.size → w1.cell? ⟨b, o, none⟩ = W.cell? ⟨b, o, none⟩) ∧ (∀ b o, b < W.heap.size → w1.frozen? ⟨b, o, none⟩ = W.frozen? ⟨b, o, none⟩) :=
  ⟨fun b o h => hb.cell (p := ⟨b, o, none⟩) h, fun b o h => hb.frozen (p := ⟨b, o, none⟩) h⟩
theorem Rd.keep (h : Rd w size A n c xs) (hk : ∀ a v, w.cell? a = some v → w'.cell? a = some v) : Rd w' size A n c xs :=
  ⟨h.1, h.2.1, h.2.2.1, fun hn => by
    obtain ⟨ad, e, hc⟩ := h.2.2.2 hn
    exact ⟨ad, e, fun j u hu => hk _ _ (hc j u hu)⟩⟩
theorem Rd.below (h : Rd w size A n c xs) (hb : Below w.heap.size w w') : Rd w' size A n c xs := h.keep fun _ _ => cell_keep hb
theorem Rd.alloc (h : Rd w size A n c xs) (o : Obj) : Rd (w.alloc o) size A n c xs := h.below ((Below.refl _ _).alloc (Nat.le_refl _) o)
theorem Rd.set (h : Rd w size A n c xs) {p : Addr} (hp : ∀ ad, A = some ad → ad.block ≠ p.block) (u : Value) : Rd (w.setCell p u) size A n c xs :=
  ⟨h.1, h.2.1, h.2.2.1, fun hn => by
    obtain ⟨ad, e, hc⟩ := h.2.2.2 hn
    refine ⟨ad, e, fun j v hv => ?_⟩
    rw [World.cell?_setCell_other w p _ u (fun e2 => hp ad e (by rw [e2, block_add]))]
    exact hc j v hv⟩
theorem Rd.drew (h : Rd w size A n c xs) : Rd w.drew size A n c xs := h
theorem Rd.nil (w : World) (size : Nat) (A : Option Addr) (c : Nat) (hc : c ≤ maxLen) : Rd w size A 0 c [] := ⟨by simp, Nat.zero_le _, hc, fun h => absurd h (by omega)⟩
theorem Rd.le (h : Rd w size A n c xs) : n ≤ maxLen := Nat.le_trans h.2.1 h.2.2.1
theorem Rd.i64 (h : Rd w size A n c xs) : n ≤ 9223372036854775807 := by have := h.le; unfold maxLen at this; omega
theorem Rd.at_ {k : Nat} (h : Rd w 1 A n c xs) (hk : k < n) : ∃ ad, A = some ad ∧ w.cell? (ad.add k) = some (xs[k]'(by have := h.1; omega)) := by
  obtain ⟨ad, e, hc⟩ := h.2.2.2 (by omega)
  exact ⟨ad, e, hc k _ (List.getElem?_eq_getElem _)⟩
theorem Rd.take {k : Nat} (h : Rd w size A n c xs) (hk : k ≤ n) (c' : Nat) (hc : k ≤ c') (hm : c' ≤ maxLen) : Rd w size A k c' (xs.take (k * size)) := by
  refine ⟨by rw [List.length_take, h.1]; exact Nat.min_eq_left (Nat.mul_le_mul_right _ hk), hc, hm, fun hn => ?_⟩
  obtain ⟨ad, e, hcell⟩ := h.2.2.2 (by omega)
  refine ⟨ad, e, fun j u hu => hcell j u ?_⟩
  rw [List.getElem?_take] at hu
  split at hu
  · exact hu
  · cases hu
theorem Rd.drop {k : Nat} (h : Rd w size A n c xs) (hk : k ≤ n) : Rd w size (if c = k then A else A.map (·.add (k * size))) (n - k) (c - k) (xs.drop (k * size)) := by
  have h1 := h.2.1
  have h2 := h.2.2.1
  refine ⟨by rw [List.length_drop, h.1, Nat.sub_mul], by omega, by omega, fun hn => ?_⟩
  obtain ⟨ad, rfl, hcell⟩ := h.2.2.2 (by omega)
  rw [if_neg (by omega)]
  refine ⟨ad.add (k * size), rfl, fun j u hu => ?_⟩
  rw [add_add']
  exact hcell _ u (by rw [← hu, List.getElem?_drop])
theorem Rd.of_own {base : Nat} {e : TypeId} (h : w.ownsRow base e size (.slice A n c) n xs) : Rd w size A n c xs := by
  rcases h.2 with ⟨he, hn⟩ | ⟨g, cap, cur, he, hb, hg, h1, h2, h3, h4⟩
  · injection he with hA hn hc
    subst hA hc
    exact ⟨h.1, by omega, by unfold maxLen; omega, fun hp => absurd hp (by omega)⟩
  · injection he with hA hn hc
    subst hA hc
    exact ⟨h.1, h1, h2, fun _ => ⟨_, rfl, h.cells (g := g) rfl⟩⟩
end

theorem cells_new (w : World) (cs : List Value) (e : TypeId) (n : Nat) (h : cs.length = n) (hm : n ≤ maxLen) : Rd (w.alloc (.cells cs.toArray e)) 1 (some ⟨w.heap.size, 0, none⟩) n n cs := by
  refine ⟨by omega, Nat.le_refl _, hm, fun _ => ⟨_, rfl, fun j x hx => ?_⟩⟩
  have : (⟨w.heap.size, 0, none⟩ : Addr).add j = ⟨w.heap.size, j, none⟩ := by unfold Addr.add; split <;> simp_all
  rw [this, World.cell?_alloc_at _ _ _ _ rfl]
  simpa using hx

theorem cells_at (w : World) (cs : List Value) (e : TypeId) (n b : Nat) (hb : b = w.heap.size) (h : cs.length = n) (hm : n ≤ maxLen) : Rd (w.alloc (.cells cs.toArray e)) 1 (some ⟨b, 0, none⟩) n n cs := by
  subst hb
  exact cells_new w cs e n h hm
/-! ### 2. A row that the call owns -/
theorem own_form {w : World} {base : Nat} {e : TypeId} {size n : Nat} {v : Value} {xs : List Value} (h : w.ownsRow base e size v n xs) : ∃ A c, v = .slice A n c := by
  rcases h.2 with ⟨rfl, rfl⟩ | ⟨g, cap, cur, rfl, _⟩
  · exact ⟨_, _, rfl⟩
  · exact ⟨_, _, rfl⟩
theorem own_below {w w' : World} {base : Nat} {e : TypeId} {size n : Nat} {v : Value} {xs : List Value} (h : w.ownsRow base e size v n xs) (hb : Below w.heap.size w w') : w'.ownsRow base e size v n xs :=
  h.kept (row := none) ⟨hb.os, hb.tape, hb.output, hb.size, fun k hk _ => hb.block k hk⟩ (by cases v.ownBlock <;> simp)
theorem own_weaken {w : World} {base base' : Nat} {e : TypeId} {size n : Nat} {v : Value} {xs : List Value} (h : w.ownsRow base e size v n xs) (hb : base' ≤ base) : w.ownsRow base' e size v n xs := by
  refine ⟨h.1, ?_⟩
  rcases h.2 with h2 | ⟨g, cap, cur, hv, hg, r⟩
  · exact .inl h2
  · exact .inr ⟨g, cap, cur, hv, Nat.le_trans hb hg, r⟩
theorem own_base {w : World} {base : Nat} {e : TypeId} {size n : Nat} {v : Value} {xs : List Value} (h : w.ownsRow base e size v n xs) (k : Nat) (hk : v.ownBlock = some k) : base ≤ k ∧ k < w.heap.size := h.lt k hk

/-- A law ended in 'grownBy', the row written is the call's own. -/
theorem below_grown {w0 w w' : World} {base : Nat} {e : TypeId} {size n : Nat} {v : Value} {xs : List Value} (h : Below w0.heap.size w0 w) (hg : w.grownBy w' v.ownBlock) (ho : w.ownsRow base e size v n xs) (hb : w0.heap.size ≤ base) : Below w0.heap.size w0 w' :=
  h.grown hg h.size fun k hk => Nat.le_trans hb (own_base ho k hk).1

/-- Only the row v has been written; what became of it (v') lies where v lay, or in new memory. -/
structure Grew (w : World) (v : Value) (w' : World) (v' : Value) : Prop where
  g : w.grownBy w' v.ownBlock
  at_ : v'.ownBlock = v.ownBlock ∨ ∃ b, v'.ownBlock = some b ∧ w.heap.size ≤ b
theorem Grew.refl (w : World) (v : Value) : Grew w v w v := ⟨World.grownBy.refl _ _, .inl rfl⟩
theorem Grew.trans {w w1 w2 : World} {v v1 v2 : Value} (h : Grew w v w1 v1) (k : Grew w1 v1 w2 v2) : Grew w v w2 v2 := by
  refine ⟨⟨k.g.os.trans h.g.os, k.g.tape.trans h.g.tape, k.g.output.trans h.g.output, Nat.le_trans h.g.size k.g.size, fun i hi hn => ?_⟩, ?_⟩
  · refine (k.g.block i (Nat.lt_of_lt_of_le hi h.g.size) ?_).trans (h.g.block i hi hn)
    rcases h.at_ with e | ⟨b, e, hb⟩
    · rw [e]; exact hn
    · rw [e]; intro he; injection he with he; omega
  · rcases k.at_ with e | ⟨b, e, hb⟩
    · rw [e]; exact h.at_
    · exact .inr ⟨b, e, Nat.le_trans h.g.size hb⟩
theorem Grew.alloc {w w1 : World} {v v1 : Value} (h : Grew w v w1 v1) (o : Obj) : Grew w v (w1.alloc o) v1 :=
  ⟨⟨h.g.os, h.g.tape, h.g.output, Nat.le_trans h.g.size (by simp), fun i hi hn => (Below.heap_alloc w1 o i (Nat.lt_of_lt_of_le hi h.g.size)).trans (h.g.block i hi hn)⟩, h.at_⟩
theorem Grew.drew {w w1 : World} {v v1 : Value} (h : Grew w v w1 v1) : Grew w v w1.drew v1 :=
  ⟨⟨h.g.os, h.g.tape, h.g.output, h.g.size, h.g.block⟩, h.at_⟩
theorem Grew.of_below {w w1 : World} (v : Value) (h : Below w.heap.size w w1) : Grew w v w1 v := ⟨⟨h.os, h.tape, h.output, h.size, fun i hi _ => h.block i hi⟩, .inl rfl⟩
theorem Grew.then_below {w w1 w2 : World} {v v1 : Value} (h : Grew w v w1 v1) (k : Below w1.heap.size w1 w2) : Grew w v w2 v1 := h.trans (Grew.of_below v1 k)
theorem Grew.below {w0 w w' : World} {base : Nat} {e : TypeId} {size n : Nat} {v v' : Value} {xs : List Value} (hg : Grew w v w' v') (h : Below w0.heap.size w0 w) (ho : w.ownsRow base e size v n xs) (hb : w0.heap.size ≤ base) : Below w0.heap.size w0 w' :=
  below_grown h hg.g ho hb
/-- Another row lives on. -/
theorem Grew.own {w w' : World} {base : Nat} {e : TypeId} {size n : Nat} {v v' u : Value} {xs : List Value} (hg : Grew w v w' v') (h : w.ownsRow base e size u n xs) (hne : u.ownBlock = none ∨ u.ownBlock ≠ v.ownBlock) : w'.ownsRow base e size u n xs := h.kept hg.g hne

theorem blk_cell {W : World} {b t : Nat} {cs : Array Value} (h : W.heap[b]? = some (.cells cs t (0, 0))) (i : Nat) : W.cell? ⟨b, i, none⟩ = cs[i]? := cell_of_row W b i cs t (0, 0) h
theorem blk_frozen {W : World} {b t : Nat} {cs : Array Value} (h : W.heap[b]? = some (.cells cs t (0, 0))) (i : Nat) : W.frozen? ⟨b, i, none⟩ = false := by simp [World.frozen?, h]
theorem blk_lt {W : World} {b : Nat} {o : Obj} (h : W.heap[b]? = some o) : b < W.heap.size := (Array.getElem?_eq_some_iff.1 h).1
theorem blk_below {w W : World} {b : Nat} {o : Obj} (h : w.heap[b]? = some o) (hb : Below w.heap.size w W) : W.heap[b]? = some o := (hb.block b (blk_lt h)).trans h
theorem blk_new (w : World) (o : Obj) : (w.alloc o).heap[w.heap.size]? = some o := heap_alloc_new w o
theorem blk_alloc {w : World} {b : Nat} {o : Obj} (h : w.heap[b]? = some o) (o' : Obj) : (w.alloc o').heap[b]? = some o := (Below.heap_alloc w o' b (blk_lt h)).trans h
theorem blk_set {W : World} {b t : Nat} {cs : Array Value} (h : W.heap[b]? = some (.cells cs t (0, 0))) (i : Nat) (u : Value) : (W.setCell ⟨b, i, none⟩ u).heap[b]? = some (.cells (cs.setIfInBounds i u) t (0, 0)) := by
  simp [World.setCell, Array.getElem?_modify, h]
theorem blk_far {W : World} {b : Nat} {o : Obj} (h : W.heap[b]? = some o) {p : Addr} (hp : b ≠ p.block) (u : Value) : (W.setCell p u).heap[b]? = some o := (Below.heap_setCell W p u b hp).trans h
/-! ### 3. append onto an own row: the source nil, empty or not -/
theorem run_append_rd {P : Program} {w : World} (t rt e : TypeId) (z : Value) (size bytes : Nat) (ht : P.underlying t = some (.slice e)) (hi : (P.info? e).map (fun i => (i.zero, i.size, i.bytes)) = some (some z, size, bytes)) (hzs : z.cells.size = size) (hsz : 0 < size)
    {base n m c : Nat} {v : Value} {A : Option Addr} {xs ys : List Value} (hown : w.ownsRow base e size v n xs) (hr : Rd w size A m c ys) (h1 : ∀ u ∈ ys, u.oneCell' = true)
    (hbytes : (n + m) * bytes ≤ 140737488355328) (h63 : n + m ≤ maxLen) (hbase : base ≤ w.heap.size) :
    ∃ A' c' w', (Builtin.append_ #[t, t] rt #[v, .slice A m c]).run P w = .ok (.slice A' (n + m) c') w' ∧ w'.ownsRow base e size (.slice A' (n + m) c') (n + m) (xs ++ ys) ∧ Grew w v w' (.slice A' (n + m) c') := by
  obtain ⟨i, hi', hz, hs', hb⟩ := info_parts hi
  have key : ∃ v' w', (Builtin.append_ #[t, t] rt #[v, .slice A m c]).run P w = .ok v' w' ∧ w'.ownsRow base e size v' (n + m) (xs ++ ys) ∧ Grew w v w' v' := by
    cases A with
    | none =>
      have hm : m = 0 := by
        rcases Nat.eq_zero_or_pos m with h0 | h0
        · exact h0
        · obtain ⟨ad, e, _⟩ := hr.2.2.2 h0; cases e
      subst hm
      have hy : ys = [] := List.eq_nil_of_length_eq_zero (by simpa using hr.1)
      subst hy
      obtain ⟨A0, c0, rfl⟩ := own_form hown
      have hn : n ≤ c0 := (Rd.of_own hown).2.1
      refine ⟨.slice A0 n c0, w, ?_, by simpa using hown, Grew.refl _ _⟩
      cases A0 <;> simp [Builtin.append_, run_underlying ht, sizeOf, typeInfo, hi', Builtin.lenOf, Builtin.firstCells, hn, storeCells]
    | some ad =>
      have hcells : ∀ j u, ys[j]? = some u → w.cell? (ad.add j) = some u := by
        intro j u hu
        have hm : 0 < m := by
          rcases Nat.eq_zero_or_pos m with h0 | h0
          · have : ys.length = 0 := by rw [hr.1, h0]; simp
            have := List.eq_nil_of_length_eq_zero this
            subst this
            simp at hu
          · exact h0
        obtain ⟨ad', e, hc⟩ := hr.2.2.2 hm
        cases e
        exact hc j u hu
      obtain ⟨v', w', hr1, h2, h3, h4⟩ := run_append_own (P := P) w base t rt e i z size bytes ht hi' hz hs' hb hzs hsz v n xs hown ad m c ys hr.1 hcells h1 h63 hbytes hbase
      refine ⟨v', w', hr1, h2, h3, ?_⟩
      rcases hown.2 with ⟨rfl, rfl⟩ | ⟨g, cap, cur, rfl, hbg, hg, hnc, hcm, hcs, htake⟩
      · by_cases hm : m = 0
        · exact .inl (by rw [(h4.2 ⟨rfl, hm⟩)])
        · have hx : xs = [] := List.eq_nil_of_length_eq_zero (by simpa using hown.1)
          obtain ⟨v2, w2, hr2, h22, _, h24⟩ := run_append_own (P := P) w w.heap.size t rt e i z size bytes ht hi' hz hs' hb hzs hsz _ _ _ (World.ownsRow_nil w w.heap.size e size) ad m c ys hr.1 hcells h1 h63 hbytes (Nat.le_refl _)
          rw [hr1] at hr2
          injection hr2 with e1 e2
          subst e1 e2
          rcases h22.2 with ⟨he, _⟩ | ⟨g', cap', cur', he, hb', _⟩
          · exact absurd (h24.1 he).2 hm
          · exact .inr ⟨g', by rw [he]; rfl, hb'⟩
      · subst hs'
        by_cases hroom : n + m ≤ cap
        · have hfit : n * i.size + ys.length ≤ cur.size := by rw [hr.1, hcs, ← Nat.add_mul]; exact Nat.mul_le_mul_right _ hroom
          have hr2 := run_append_room (P := P) w t rt e i ht hi' g n cap cur hg ad m c ys hr.1 hcells h1 hroom hfit
          rw [hr1] at hr2
          injection hr2 with e1 e2
          subst e1
          exact .inl rfl
        · have holds : ∀ j u, xs[j]? = some u → w.cell? ((⟨g, 0, none⟩ : Addr).add j) = some u := hown.cells (g := g) rfl
          have hr2 := run_append_grow (P := P) w t rt e i z ht hi' hz ⟨g, 0, none⟩ n cap xs hown.1 holds ad m c ys hr.1 hcells (by omega) (by unfold maxLen at h63; omega) (growslice_fits (by omega) (by rw [hb]; exact hbytes))
          rw [hr1] at hr2
          injection hr2 with e1 e2
          subst e1
          exact .inr ⟨w.heap.size, rfl, Nat.le_refl _⟩
  obtain ⟨v', w', hr1, h2, h3⟩ := key
  obtain ⟨A', c', rfl⟩ := own_form h2
  exact ⟨A', c', w', hr1, h2, h3⟩
theorem wpList_append_rd {P : Program} {w : World} {ops : Array Oper} {rest : List Oper} {o : Oper} {a : Act} {Q : Exit → Act → World → Prop} (hgd : o.guard = none) (s x : Operand) (t e : TypeId)
    (ho : o.op = .call { callee := .builtin .append, args := #[s, x], argTypes := #[t, t] })
    (z : Value) (size bytes : Nat) (ht : P.underlying t = some (.slice e)) (hi : (P.info? e).map (fun i => (i.zero, i.size, i.bytes)) = some (some z, size, bytes)) (hzs : z.cells.size = size) (hsz : 0 < size)
    {base n m c : Nat} {v : Value} {A : Option Addr} {xs ys : List Value} (hown : w.ownsRow base e size v n xs) (hs : a.eval s = v)
    (hr : Rd w size A m c ys) (hx : a.eval x = .slice A m c) (h1 : ∀ u ∈ ys, u.oneCell' = true)
    (h : ∀ A' c' w', w'.ownsRow base e size (.slice A' (n + m) c') (n + m) (xs ++ ys) → Grew w v w' (.slice A' (n + m) c') → wpList P ops Q rest (a.put o.dst (.slice A' (n + m) c')) w')
    (hbytes : (n + m) * bytes ≤ 140737488355328) (h63 : n + m ≤ maxLen) (hbase : base ≤ w.heap.size) : wpList P ops Q (o :: rest) a w := by
  obtain ⟨A', c', w', hr1, h2, h3⟩ := run_append_rd (P := P) t o.type e z size bytes ht hi hzs hsz hown hr h1 hbytes h63 hbase
  refine wpList_plain hgd fun K hK => ?_
  unfold Oper.wp
  simp [execOp, ho, resolve, invoke, builtin, hs, hx, hr1, Result.andThen]
  exact hK _ _ (h A' c' w' h2 h3)
/-- .. as one step of a region that draws its order. -/
theorem step_append_rd {P : Program} {w : World} {ops : Array Oper} {o : Oper} {a : Act} {K : Act → World → Prop} {Q : Exit → Act → World → Prop} {E : Prop} (hgd : o.guard = none) (s x : Operand) (t e : TypeId)
    (ho : o.op = .call { callee := .builtin .append, args := #[s, x], argTypes := #[t, t] })
    (z : Value) (size bytes : Nat) (ht : P.underlying t = some (.slice e)) (hi : (P.info? e).map (fun i => (i.zero, i.size, i.bytes)) = some (some z, size, bytes)) (hzs : z.cells.size = size) (hsz : 0 < size)
    {base n m c : Nat} {v : Value} {A : Option Addr} {xs ys : List Value} (hown : w.ownsRow base e size v n xs) (hs : a.eval s = v)
    (hr : Rd w size A m c ys) (hx : a.eval x = .slice A m c) (h1 : ∀ u ∈ ys, u.oneCell' = true)
    (hbytes : (n + m) * bytes ≤ 140737488355328) (h63 : n + m ≤ maxLen) (hbase : base ≤ w.heap.size)
    (h : ∀ A' c' w', w'.ownsRow base e size (.slice A' (n + m) c') (n + m) (xs ++ ys) → Grew w v w' (.slice A' (n + m) c') → K (a.put o.dst (.slice A' (n + m) c')) w') :
    if Region.wanted o (yielded ops a.tmps) = true then Oper.wp P o a w K Q else E := by
  obtain ⟨A', c', w', hr1, h2, h3⟩ := run_append_rd (P := P) t o.type e z size bytes ht hi hzs hsz hown hr h1 hbytes h63 hbase
  have hw : Region.wanted o (yielded ops a.tmps) = true := by simp [Region.wanted, hgd]
  rw [if_pos hw]
  unfold Oper.wp
  simp [execOp, ho, resolve, invoke, builtin, hs, hx, hr1, Result.andThen]
  exact h A' c' w' h2 h3

/-! ### 4. Bytes -/
def byt (c : UInt8) : Value := .int .u8 (c.toNat : Int)
def bytes (l : List UInt8) : List Value := l.map byt
theorem bytes_length (l : List UInt8) : (bytes l).length = l.length := by simp [bytes]
theorem bytes_append (l m : List UInt8) : bytes (l ++ m) = bytes l ++ bytes m := by simp [bytes]
theorem bytes_take (l : List UInt8) (k : Nat) : bytes (l.take k) = (bytes l).take k := by simp [bytes, List.map_take]
theorem bytes_drop (l : List UInt8) (k : Nat) : bytes (l.drop k) = (bytes l).drop k := by simp [bytes, List.map_drop]
theorem bytes_oneCell (l : List UInt8) : ∀ u ∈ bytes l, u.oneCell' = true := by
  intro u hu
  simp only [bytes, List.mem_map] at hu
  obtain ⟨c, _, rfl⟩ := hu
  rfl
theorem bytes_inj : ∀ {l m : List UInt8}, bytes l = bytes m → l = m
  | [], [], _ => rfl
  | [], _ :: _, h => by simp [bytes] at h
  | _ :: _, [], h => by simp [bytes] at h
  | a :: l, b :: m, h => by
    simp only [bytes, List.map_cons, List.cons.injEq, byt, Value.int.injEq, true_and, Int.ofNat_inj] at h
    rw [UInt8.toNat_inj.1 h.1, bytes_inj h.2]
def Bs (w : World) (A : Option Addr) (n c : Nat) (l : List UInt8) : Prop := Rd w 1 A n c (bytes l)
section
variable {w w' : World} {n c : Nat} {A : Option Addr} {l : List UInt8}
theorem Bs.len (h : Bs w A n c l) : l.length = n := by have := h.1; simpa [bytes_length] using this
theorem Bs.below (h : Bs w A n c l) (hb : Below w.heap.size w w') : Bs w' A n c l := Rd.below h hb
theorem Bs.alloc (h : Bs w A n c l) (o : Obj) : Bs (w.alloc o) A n c l := Rd.alloc h o
theorem Bs.drew (h : Bs w A n c l) : Bs w.drew A n c l := h
theorem Bs.set (h : Bs w A n c l) {p : Addr} (hp : ∀ ad, A = some ad → ad.block ≠ p.block) (u : Value) : Bs (w.setCell p u) A n c l := Rd.set h hp u
theorem Bs.drewN (h : Bs w A n c l) (d : Nat) : Bs (w.drewN d) A n c l := h.below (below_drewN (Below.refl _ _) d)
theorem Bs.of_own {base : Nat} {e : TypeId} (h : w.ownsRow base e 1 (.slice A n c) n (bytes l)) : Bs w A n c l := Rd.of_own h
theorem Bs.keep (h : Bs w A n c l) (hk : ∀ a v, w.cell? a = some v → w'.cell? a = some v) : Bs w' A n c l := Rd.keep h hk
theorem Bs.le (h : Bs w A n c l) : n ≤ maxLen := Rd.le h
theorem Bs.i64 (h : Bs w A n c l) : n ≤ 9223372036854775807 := Rd.i64 h
theorem Bs.at_ {k : Nat} (h : Bs w A n c l) (hk : k < n) : ∃ ad, A = some ad ∧ w.cell? (ad.add k) = some (.int .u8 ((l[k]'(by have := h.len; omega)).toNat : Int)) := by
  obtain ⟨ad, e, hc⟩ := Rd.at_ h hk
  exact ⟨ad, e, by simpa [bytes, byt] using hc⟩
theorem Bs.take {k : Nat} (h : Bs w A n c l) (hk : k ≤ n) (c' : Nat) (hc : k ≤ c') (hm : c' ≤ maxLen) : Bs w A k c' (l.take k) := by
  have := Rd.take h hk c' hc hm
  unfold Bs
  rw [bytes_take]
  simpa using this
theorem Bs.drop {k : Nat} (h : Bs w A n c l) (hk : k ≤ n) : Bs w (if c = k then A else A.map (·.add k)) (n - k) (c - k) (l.drop k) := by
  have := Rd.drop h hk
  unfold Bs
  rw [bytes_drop]
  simpa using this
end

/-- 'b[m:]', whatever its capacity: A' is a letter. -/
theorem cut_bytes {P : Program} (t e : TypeId) {i : TypeInfo} (ht : P.underlying t = some (.slice e)) (hi : P.info? e = some i) (hsz : i.size = 1) (A : Option Addr) (n c m : Nat) (hm : m ≤ n) :
    ∃ A' : Option Addr, (∀ W : World, (Instr.slice t (.slice A n c) (some (.int .i64 (m : Int))) none none).run P W = .ok (.slice A' (n - m) (c - m)) W) ∧
      (∀ (w : World) (l : List UInt8), Bs w A n c l → Bs w A' (n - m) (c - m) (l.drop m)) ∧ (∀ ad', A' = some ad' → ∃ ad, A = some ad ∧ ad'.block = ad.block) := by
  refine ⟨if c = m then A else A.map (·.add m), fun W => ?_, fun w l h => h.drop hm, fun ad' h => ?_⟩
  · have hel : P.elem t = e := by simp [Program.elem, ht]
    have hu : P.underlying t = some (.slice (P.elem t)) := by rw [hel]; exact ht
    rw [run_slice_l W t A n c hu .i64 (m : Int) (Int.natCast_nonneg _) (by omega), hel]
    simp [sizeOf, typeInfo, hi, hsz, sliced, Result.andThen]
  · split at h
    · exact ⟨ad', h, rfl⟩
    · cases A with
      | none => simp at h
      | some ad => simp at h; subst h; exact ⟨ad, rfl, block_add _ _⟩

theorem cut2_bytes {P : Program} (t e : TypeId) {i : TypeInfo} (ht : P.underlying t = some (.slice e)) (hinf : P.info? e = some i) (hsz : i.size = 1) (A : Option Addr) (n c lo hi : Nat) (h1 : lo ≤ hi) (h2 : hi ≤ n) (hc : n ≤ c) :
    ∃ A' : Option Addr, (∀ W : World, (Instr.slice t (.slice A n c) (some (.int .i64 (lo : Int))) (some (.int .i64 (hi : Int))) none).run P W = .ok (.slice A' (hi - lo) (c - lo)) W) ∧
      (∀ (w : World) (l : List UInt8), Bs w A n c l → Bs w A' (hi - lo) (c - lo) ((l.drop lo).take (hi - lo))) ∧ (∀ ad', A' = some ad' → ∃ ad, A = some ad ∧ ad'.block = ad.block) := by
  refine ⟨if c = lo then A else A.map (·.add lo), fun W => ?_, fun w l h => ?_, fun ad' h => ?_⟩
  · have hel : P.elem t = e := by simp [Program.elem, ht]
    have hu : P.underlying t = some (.slice (P.elem t)) := by rw [hel]; exact ht
    rw [run_slice_lh W t A n c hu .i64 .i64 (lo : Int) (hi : Int) (by omega) (by omega) (by omega), hel]
    simp [sizeOf, typeInfo, hinf, hsz, sliced, Result.andThen]
  · have := h.drop (k := lo) (by omega)
    exact this.take (by omega) _ (by omega) this.2.2.1
  · split at h
    · exact ⟨ad', h, rfl⟩
    · cases A with
      | none => simp at h
      | some ad => simp at h; subst h; exact ⟨ad, rfl, block_add _ _⟩

/-! ### 5. string(b) -/
def strB (l : List UInt8) : ByteArray := ⟨l.toArray⟩
theorem strB_inj {l m : List UInt8} (h : strB l = strB m) : l = m := by
  injection h with h
  simpa using congrArg Array.toList h
theorem strB_toList (l : List UInt8) : (strB l).toList = l := by
  rw [ByteArray.toList_eq]
  simp [strB]
theorem strB_fold (l : List UInt8) : (l.map fun c : UInt8 => ((c.toNat : Nat) : Int)).foldl (fun r n => r.push (UInt8.ofNat n.toNat)) ByteArray.empty = strB l := by
  rw [foldl_push_bytes]
  simp [strB, Function.comp_def]
theorem run_string_bytes {P : Program} {w : World} (src dst e : TypeId) (hs : P.underlying src = some (.slice e)) (hd : P.underlying dst = some .string) (he : P.underlying e = some (.int .u8)) {A : Option Addr} {n c : Nat} {l : List UInt8} (h : Bs w A n c l) :
    (convert src dst (.slice A n c)).run P w = .ok (.string (strB l)) w := by
  cases A with
  | none =>
    have hn : n = 0 := by
      rcases Nat.eq_zero_or_pos n with h0 | h0
      · exact h0
      · obtain ⟨ad, e, _⟩ := h.2.2.2 h0; cases e
    subst hn
    have hl : l = [] := List.eq_nil_of_length_eq_zero h.len
    subst hl
    rw [run_convert_bytes_string w src dst e none 0 c hs he hd]
    simp [Conv.bytesToString, strB]
    rfl
  | some ad =>
    rw [run_convert_bytes_string w src dst e (some ad) n c hs he hd]
    have hcells : ∀ j u, (bytes l)[j]? = some u → w.cell? (ad.add j) = some u := by
      intro j u hu
      have hm : 0 < n := by
        rcases Nat.eq_zero_or_pos n with h0 | h0
        · have := h.len; rw [h0] at this
          have := List.eq_nil_of_length_eq_zero this
          subst this
          simp [bytes] at hu
        · exact h0
      obtain ⟨ad', e, hc⟩ := h.2.2.2 hm
      cases e
      exact hc j u hu
    have hl := run_loadCells_list (P := P) (w := w) ad (bytes l) hcells
    rw [bytes_length, h.len] at hl
    rw [run_bytesToString (P := P) w ad n c (l.map fun c : UInt8 => ((c.toNat : Nat) : Int)) (by rw [hl]; simp [bytes, byt, Function.comp_def]), strB_fold]
end Go.Proofs.YtaldjmhikebecaaGreat
namespace Go.Proofs.YtaldjmhikebecaaGreat
open Go Go.RowKit
def RetTrue (w : World) (e : Ending) (w' : World) : Prop := e = .returned (.bool true) ∧ Below w.heap.size w w'
/-- What an int holds. -/
def I64 (x : Int) : Prop := -9223372036854775808 ≤ x ∧ x ≤ 9223372036854775807
end Go.Proofs.YtaldjmhikebecaaGreat
namespace Go.Proofs.YtaldjmhikebecaaGreat

/-- A number's n bytes, the least first. -/
def leN (v : Nat) : Nat → List UInt8
  | 0 => []
  | n + 1 => leN v n ++ [UInt8.ofNat (v / 256 ^ n)]
theorem leN_length (v n : Nat) : (leN v n).length = n := by
  induction n with
  | zero => rfl
  | succ n ih => simp [leN, ih]
theorem byte_at (v k : Nat) : ((UInt8.ofNat (v / 256 ^ k)).toNat : Int) = (v : Int) / 2 ^ (8 * k) % 256 := by
  rw [show (UInt8.ofNat (v / 256 ^ k)).toNat = v / 256 ^ k % 256 from by simp [UInt8.toNat_ofNat'], show (256 : Nat) ^ k = 2 ^ (8 * k) from by rw [Nat.pow_mul]]
  simp
theorem byte_mod (v k : Nat) : ((UInt8.ofNat (v / 256 ^ k)).toNat : Int) = ((v / 256 ^ k : Nat) : Int) % 256 := by
  rw [show (UInt8.ofNat (v / 256 ^ k)).toNat = v / 256 ^ k % 256 from by simp [UInt8.toNat_ofNat']]
  simp
theorem div_step (v k : Nat) : v / 256 ^ k / 256 = v / 256 ^ (k + 1) := by rw [Nat.div_div_eq_div_mul, ← Nat.pow_succ]
/-- The number that bytes are, the least first. -/
def unle : List UInt8 → Nat
  | [] => 0
  | c :: l => c.toNat + 256 * unle l
theorem unle_snoc (l : List UInt8) (c : UInt8) : unle (l ++ [c]) = unle l + c.toNat * 256 ^ l.length := by
  induction l with
  | nil => simp [unle]
  | cons x l ih => simp only [List.cons_append, unle, ih, List.length_cons, Nat.pow_succ, Nat.mul_add]; rw [show 256 * (c.toNat * 256 ^ l.length) = c.toNat * (256 ^ l.length * 256) from by rw [Nat.mul_comm 256, Nat.mul_assoc]]; omega
theorem unle_lt (l : List UInt8) : unle l < 256 ^ l.length := by
  induction l with
  | nil => simp [unle]
  | cons x l ih => have := x.toNat_lt; simp only [unle, List.length_cons, Nat.pow_succ]; omega
/-- Numbers' bytes, one behind the other. -/
def leAll (n : Nat) : List Nat → List UInt8
  | [] => []
  | v :: vs => leN v n ++ leAll n vs
theorem leAll_snoc (n : Nat) (vs : List Nat) (v : Nat) : leAll n (vs ++ [v]) = leAll n vs ++ leN v n := by
  induction vs with
  | nil => simp [leAll]
  | cons u vs ih => simp [leAll, ih]
theorem leAll_length (n : Nat) (vs : List Nat) : (leAll n vs).length = vs.length * n := by
  induction vs with
  | nil => simp [leAll]
  | cons u vs ih => simp [leAll, ih, leN_length, Nat.add_mul]; omega
theorem leAll_take (n : Nat) (vs : List Nat) (k : Nat) (h : k < vs.length) : leAll n (vs.take (k + 1)) = leAll n (vs.take k) ++ leN vs[k] n := by
  rw [List.take_succ_eq_append_getElem h, leAll_snoc]
/-- Numbers of n bytes each, from a place on. -/
def getAll (l : List UInt8) (at_ n : Nat) : Nat → List Nat
  | 0 => []
  | k + 1 => getAll l at_ n k ++ [unle ((l.drop (at_ + k * n)).take n)]
theorem getAll_length (l : List UInt8) (at_ n k : Nat) : (getAll l at_ n k).length = k := by
  induction k with
  | zero => rfl
  | succ k ih => simp [getAll, ih]
end Go.Proofs.YtaldjmhikebecaaGreat
