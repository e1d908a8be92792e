/- Layer 9 (super): the reference's Decode, all of it. -/
import Derived.Test.YtaldjmhikebecaaDecR
namespace Go.Proofs.Ytaldjmhikebecaa
open Go Go.RowKit
set_option maxRecDepth 100000
theorem RDecode_any (A : Option Addr) (n c : Nat) (l : List UInt8) (w : World) (h : Bs w A n c l) :
    Calls Try.prog 15 #[.slice A n c] w (RetS w (decode l)) := by
  cases hr : readF l with
  | err code => rw [decode_err hr]; exact RDecode_err A n c l w h code (readF_err hr) hr
  | ok k ser b =>
    by_cases hb : k = 1 ∧ b.length = 52
    · obtain ⟨rfl, hl⟩ := hb
      exact RDecode_run A n c l w h ser b hr hl
    · rw [decode_bad hr hb]
      exact RDecode_bad A n c l w h k ser b hr hb
end Go.Proofs.Ytaldjmhikebecaa
