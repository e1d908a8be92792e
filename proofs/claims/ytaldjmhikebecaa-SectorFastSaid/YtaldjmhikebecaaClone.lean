/- bytes.Clone. -/
import Derived.Test.YtaldjmhikebecaaOct
namespace Go.Proofs.Ytaldjmhikebecaa
open Go Go.RowKit
set_option maxRecDepth 100000
set_option linter.unusedVariables false
attribute [local go_sem] Oper.semAt_some eq_nil_bytes
theorem BClone_any (A : Option Addr) (n c : Nat) (l : List UInt8) (w : World) (h : Bs w A n c l) (hb : n ≤ 140737488355328) :
    Calls Try.prog 69 #[.slice A n c] w (RetB w n l) := by
  have hl := Lib.hid h.len
  have HB := Lib.hid hb
  clear hb
  have hr := h.alloc (.cells #[] 5)
  have HR := Lib.hid hr
  have H := Lib.hid h
  have ho := Lib.hid (own_lit0 w 5)
  clear hr h
  rcases A with _ | ad
  · obtain rfl : l = [] := by
      rcases l with _ | ⟨x, l⟩
      · rfl
      · obtain ⟨ad, e, _⟩ := H.out.2.2.2 (by have := hl.out; simp at this; omega); cases e
    obtain rfl : n = 0 := by have := hl.out; simpa using this.symm
    go_enter Try.func69, Try.ntmps69
    go_wp2_with fail
    go_ret
    exact ⟨none, 0, rfl, World.ownsRow_nil _ _ _ _, Below.refl _ _⟩
  · go_enter Try.func69, Try.ntmps69
    go_wp2_with (at_builtin; go_must (refine wpList_append_rd rfl _ _ _ 5 rfl (.int .u8 0) 1 1 Try.underlying26 info_u8 rfl (by decide) ho.out rfl HR.out rfl (bytes_oneCell l) ?_ ?c1 ?c2 ?c3; intro A1 c1 w1 ho1 hg1))
    case c1 => simpa using HB.out
    case c2 => have := H.out.le; omega
    case c3 => simp
    simp only [Nat.zero_add, List.nil_append] at ho1 ⊢
    go_ret
    exact ⟨A1, c1, rfl, ho1, hg1.below ((Below.refl _ _).alloc (Nat.le_refl _) _) ho.out (Nat.le_refl _)⟩

end Go.Proofs.Ytaldjmhikebecaa
