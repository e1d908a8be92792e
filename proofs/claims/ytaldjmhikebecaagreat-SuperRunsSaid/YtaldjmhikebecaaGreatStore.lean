/- Laws of the store of a whole struct. -/
import Derived.Test.YtaldjmhikebecaaGreatLib
import Derived.Lib.FrozenHead
import Derived.Lib.ReflectliteSwap
namespace Go.Proofs.YtaldjmhikebecaaGreat
open Go Go.RowKit
set_option maxRecDepth 100000
set_option linter.unusedVariables false
attribute [local go_sem] Oper.semAt_some
theorem info_run {P : Program} (e : TypeId) (ie : TypeInfo) (hie : P.info? e = some ie) (w : World) : (typeInfo e).run P w = .ok ie w := by
  simp [typeInfo, hie, Result.andThen]
/-- A store of a whole struct over a block that is one variable, no part of it frozen. -/
theorem wpList_store_blk {P : Program} {w : World} {ops : Array Oper} {rest : List Oper} {o : Oper} {a : Act} {Q : Exit → Act → World → Prop} (hgd : o.guard = none) (t : TypeId) (x v : Operand)
    (ho : o.op = .store t x v) {b tb : Nat} {cs vs : Array Value} (hx : a.eval x = .pointer (some ⟨b, 0, none⟩)) (hv : a.eval v = .agg vs) (ie : TypeInfo) (hie : P.info? t = some ie) (hs : vs.size = ie.size)
    (h1 : ∀ u ∈ vs.toList, u.oneCell' = true) (hb : w.heap[b]? = some (.cells cs tb (0, 0))) (hcs : cs.size = vs.size)
    (h : ∀ w', w'.heap[b]? = some (.cells vs tb (0, 0)) → w.grownBy w' (some b) → w'.heap.size = w.heap.size → wpList P ops Q rest (a.put o.dst undef) w') : wpList P ops Q (o :: rest) a w := by
  have hr := run_storeCells_atF P b 0 tb (0, 0) vs.toList 0 cs w hb (by simp) (by simp [hcs]) h1
  have he : (cs.toList.take (0 + 0) ++ vs.toList ++ cs.toList.drop (0 + 0 + vs.toList.length)).toArray = vs := by
    rw [List.drop_eq_nil_of_le (by simp [hcs])]; simp
  rw [he] at hr
  refine wpList_plain hgd fun K hK => ?_
  unfold Oper.wp
  simp [execOp, ho, hx, hv, Instr.storeAt, Instr.sureAddr, storeVar, Value.cells, sizeOf, info_run t ie hie, hs, hr, Result.andThen]
  exact hK _ _ (h _ (setRow_heap w b cs vs tb (0, 0) hb) ⟨rfl, rfl, rfl, by simp [World.setRow], fun k hk hn => setRow_other w b k vs (fun e => hn (by rw [e]))⟩ (by simp [World.setRow]))
/-- The same for a load. -/
theorem wpList_load_blk {P : Program} {w : World} {ops : Array Oper} {rest : List Oper} {o : Oper} {a : Act} {Q : Exit → Act → World → Prop} (hgd : o.guard = none) (t : TypeId) (x : Operand)
    (ho : o.op = .load t x) {b tb : Nat} {cs : Array Value} (hx : a.eval x = .pointer (some ⟨b, 0, none⟩)) (ie : TypeInfo) (hie : P.info? t = some ie) (hs : cs.size = ie.size)
    (hagg : ∀ w, (isAgg t).run P w = .ok true w) (hb : w.heap[b]? = some (.cells cs tb (0, 0)))
    (h : wpList P ops Q rest (a.put o.dst (.agg cs)) w) : wpList P ops Q (o :: rest) a w := by
  have hr := Lib.rl_loadVar_cells (P := P) t ie hie hagg b 0 cs.toList (by simpa using hs) w (fun k v hk => by rw [Nat.zero_add, cell_of_row w b k cs tb (0, 0) hb]; simpa using hk)
  refine wpList_plain hgd fun K hK => ?_
  unfold Oper.wp
  simp [execOp, ho, hx, Instr.loadAt, Instr.sureAddr, hr, Result.andThen]
  exact hK _ _ h
theorem results_blk {P : Program} {fn : Func} {tmps : Array Value} {w : World} (p q : Nat) (t : TypeId) (hf : fn.results = #[.cell p t, .tmp q]) {b tb : Nat} {cs : Array Value} {v : Value}
    (hp : tmps.getD p undef = .pointer (some ⟨b, 0, none⟩)) (hq : tmps.getD q undef = v) (ie : TypeInfo) (hie : P.info? t = some ie) (hs : cs.size = ie.size)
    (hagg : ∀ w, (isAgg t).run P w = .ok true w) (hb : w.heap[b]? = some (.cells cs tb (0, 0))) : (results fn tmps).run P w = .ok (.tuple #[.agg cs, v]) w := by
  have hr := Lib.rl_loadVar_cells (P := P) t ie hie hagg b 0 cs.toList (by simpa using hs) w (fun k v hk => by rw [Nat.zero_add, cell_of_row w b k cs tb (0, 0) hb]; simpa using hk)
  have hp' : tmps[p]?.getD undef = .pointer (some ⟨b, 0, none⟩) := by simpa using hp
  have hq' : tmps[q]?.getD undef = v := by simpa using hq
  simp [results, hf, asAddr, Result.andThen]
  rw [hp', hq']
  simp [hr]
/-- A statement that ends as it should, and so asks nothing of a panic's exit (the walks of regions that draw want it so). -/
def OnlyN (R : Act → World → Prop) : Exit → Act → World → Prop
  | .normal, a, w => R a w
  | _, _, _ => False
theorem wpIn_onlyN {F : Fence} {n : Nat} {P : Program} {c : Code} {Q : Exit → Act → World → Prop} {a : Act} {w : World} (h : c.wpIn F n P (OnlyN fun a w => Q .normal a w) a w) : c.wpIn F n P Q a w := by
  refine wpIn_mono h ?_
  intro e a w
  cases e <;> first | exact fun h => h | exact fun h => h.elim
theorem wpListIn_store_blk {F : Fence} {n : Nat} {P : Program} {w : World} {ops : Array Oper} {rest : List Oper} {o : Oper} {a : Act} {Q : Exit → Act → World → Prop} (hgd : o.guard = none) (t : TypeId) (x v : Operand)
    (ho : o.op = .store t x v) {b tb : Nat} {cs vs : Array Value} (hx : a.eval x = .pointer (some ⟨b, 0, none⟩)) (hv : a.eval v = .agg vs) (ie : TypeInfo) (hie : P.info? t = some ie) (hs : vs.size = ie.size)
    (h1 : ∀ u ∈ vs.toList, u.oneCell' = true) (hb : w.heap[b]? = some (.cells cs tb (0, 0))) (hcs : cs.size = vs.size)
    (h : ∀ w', w'.heap[b]? = some (.cells vs tb (0, 0)) → w.grownBy w' (some b) → w'.heap.size = w.heap.size → wpListIn F n P ops Q rest (a.put o.dst undef) w') : wpListIn F n P ops Q (o :: rest) a w := by
  have hr := run_storeCells_atF P b 0 tb (0, 0) vs.toList 0 cs w hb (by simp) (by simp [hcs]) h1
  have he : (cs.toList.take (0 + 0) ++ vs.toList ++ cs.toList.drop (0 + 0 + vs.toList.length)).toArray = vs := by
    rw [List.drop_eq_nil_of_le (by simp [hcs])]; simp
  rw [he] at hr
  refine wpListIn_plain hgd fun K hK => ?_
  unfold Oper.wpIn
  refine ⟨by simp [Oper.about, ho], ?_⟩
  rw [Oper.semAt_eq _ _ _ (by rw [ho]; intro c hc'; cases hc')]
  simp [execOp, ho, hx, hv, Instr.storeAt, Instr.sureAddr, storeVar, Value.cells, sizeOf, info_run t ie hie, hs, hr, Result.andThen]
  exact hK _ _ (h _ (setRow_heap w b cs vs tb (0, 0) hb) ⟨rfl, rfl, rfl, by simp [World.setRow], fun k hk hn => setRow_other w b k vs (fun e => hn (by rw [e]))⟩ (by simp [World.setRow]))
theorem wpListIn_load_blk {F : Fence} {n : Nat} {P : Program} {w : World} {ops : Array Oper} {rest : List Oper} {o : Oper} {a : Act} {Q : Exit → Act → World → Prop} (hgd : o.guard = none) (t : TypeId) (x : Operand)
    (ho : o.op = .load t x) {b tb : Nat} {cs : Array Value} (hx : a.eval x = .pointer (some ⟨b, 0, none⟩)) (ie : TypeInfo) (hie : P.info? t = some ie) (hs : cs.size = ie.size)
    (hagg : ∀ w, (isAgg t).run P w = .ok true w) (hb : w.heap[b]? = some (.cells cs tb (0, 0)))
    (h : wpListIn F n P ops Q rest (a.put o.dst (.agg cs)) w) : wpListIn F n P ops Q (o :: rest) a w := by
  have hr := Lib.rl_loadVar_cells (P := P) t ie hie hagg b 0 cs.toList (by simpa using hs) w (fun k v hk => by rw [Nat.zero_add, cell_of_row w b k cs tb (0, 0) hb]; simpa using hk)
  refine wpListIn_plain hgd fun K hK => ?_
  unfold Oper.wpIn
  refine ⟨by simp [Oper.about, ho], ?_⟩
  rw [Oper.semAt_eq _ _ _ (by rw [ho]; intro c hc'; cases hc')]
  simp [execOp, ho, hx, Instr.loadAt, Instr.sureAddr, hr, Result.andThen]
  exact hK _ _ h
end Go.Proofs.YtaldjmhikebecaaGreat
