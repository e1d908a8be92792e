/-
  No cell of these rows narrows 'for every input' (looked for: loops, veiled, ifaces, maps, wideKeys, modest, calm, conditions, laid).
  DERIVED. THE GIVEN ROWS OF THIS SEAT. 9 by the template 'for every input the law returns true; each argument reads behind the call as it read before'; 0 by the template 'total and deterministic' (their statements: YtaldjmhikebecaaTotals.lean).
  GIVEN WITH THE SEED: the statements are not yours to turn. If you find one false, say at which input.
  Laid BY PROGRAM, IN A SANDBOX (cutbox-rows.mjs): the forced cells as the released guide's own fill.sh prints them over the translation bdecea0b939bad79… (all of the seat's roots in one cut). By AI agents, Wed Nov 11 2026. No macro, syntax, notation, axiom, sorry.
-/
import Derived.Test.YtaldjmhikebecaaChecked
import GoSem.Claim
import GoSem.ClaimJoined
import GoSem.ClaimMapViews
import Derived.JoinedTies
import Derived.KernelRfl
namespace Go.Proofs.Ytaldjmhikebecaa
/- THE CELL 'sum', in the pinned program and in every row, IS THE sha256 OF THE DUMP (.gsa) THAT YtaldjmhikebecaaProg.lean LOADS. Nothing in Lean hashes anything: it is a label: what it is worth is what the hold of that sum in a sandbox is worth. -/
noncomputable def Try.pinned : Pinned := { name := "ytaldjmhikebecaa", sum := "bdecea0b939bad79a116de0697c0e31f731ad6209254d03c0f72cb22d2901fd5", checked := Try.checked }
namespace Rows
def none {H : Type} : Left H := { results := [], args := [] }

/-- 'plinthlaw09.SuperForms': WHATEVER THE INPUT: true; the input reads as it did. -/
def superFormsSpec : ChangeSpec := { name := "superForms", fn := fun _ => fun
  | [d1, d2] => { results := [.lit (.bool true)], args := [d1, d2] }
  | _ => none }
def superFormsRow : OpenClaim := { program := "ytaldjmhikebecaa", sum := "bdecea0b939bad79a116de0697c0e31f731ad6209254d03c0f72cb22d2901fd5", func := "plinth/plinthlaw09.SuperForms", spec := "superForms", unfollowed := true, recurses := true, apart := false }
def SuperFormsSaid : Prop := superFormsRow.holds Try.pinned (OpenSpec.ofChange superFormsSpec)

/-- ITS FALSE NEIGHBOUR: 'it returns false'. Refute it at one input. -/
def superFormsWrong : ChangeSpec := { name := "superForms", fn := fun _ => fun
  | [d1, d2] => { results := [.lit (.bool false)], args := [d1, d2] }
  | _ => none }
def SuperFormsWrongFalsely : Prop := superFormsRow.holds Try.pinned (OpenSpec.ofChange superFormsWrong)

/-- 'plinthlaw09.SuperBack': WHATEVER THE INPUT: true; the input reads as it did. -/
def superBackSpec : ChangeSpec := { name := "superBack", fn := fun _ => fun
  | [d1, d2] => { results := [.lit (.bool true)], args := [d1, d2] }
  | _ => none }
def superBackRow : OpenClaim := { program := "ytaldjmhikebecaa", sum := "bdecea0b939bad79a116de0697c0e31f731ad6209254d03c0f72cb22d2901fd5", func := "plinth/plinthlaw09.SuperBack", spec := "superBack", unfollowed := true, recurses := true, apart := false }
def SuperBackSaid : Prop := superBackRow.holds Try.pinned (OpenSpec.ofChange superBackSpec)

/-- ITS FALSE NEIGHBOUR: 'it returns false'. Refute it at one input. -/
def superBackWrong : ChangeSpec := { name := "superBack", fn := fun _ => fun
  | [d1, d2] => { results := [.lit (.bool false)], args := [d1, d2] }
  | _ => none }
def SuperBackWrongFalsely : Prop := superBackRow.holds Try.pinned (OpenSpec.ofChange superBackWrong)

/-- 'plinthlaw09.SuperSpoilt': WHATEVER THE INPUT: true; the input reads as it did. -/
def superSpoiltSpec : ChangeSpec := { name := "superSpoilt", fn := fun _ => fun
  | [d1, d2, d3] => { results := [.lit (.bool true)], args := [d1, d2, d3] }
  | _ => none }
def superSpoiltRow : OpenClaim := { program := "ytaldjmhikebecaa", sum := "bdecea0b939bad79a116de0697c0e31f731ad6209254d03c0f72cb22d2901fd5", func := "plinth/plinthlaw09.SuperSpoilt", spec := "superSpoilt", unfollowed := true, recurses := true, apart := false }
def SuperSpoiltSaid : Prop := superSpoiltRow.holds Try.pinned (OpenSpec.ofChange superSpoiltSpec)

/-- ITS FALSE NEIGHBOUR: 'it returns false'. Refute it at one input. -/
def superSpoiltWrong : ChangeSpec := { name := "superSpoilt", fn := fun _ => fun
  | [d1, d2, d3] => { results := [.lit (.bool false)], args := [d1, d2, d3] }
  | _ => none }
def SuperSpoiltWrongFalsely : Prop := superSpoiltRow.holds Try.pinned (OpenSpec.ofChange superSpoiltWrong)

/-- 'plinthlaw08.SectorRows': WHATEVER THE INPUT: true; the input reads as it did. -/
def sectorRowsSpec : ChangeSpec := { name := "sectorRows", fn := fun _ => fun
  | [d1, d2, d3, d4, d5] => { results := [.lit (.bool true)], args := [d1, d2, d3, d4, d5] }
  | _ => none }
def sectorRowsRow : OpenClaim := { program := "ytaldjmhikebecaa", sum := "bdecea0b939bad79a116de0697c0e31f731ad6209254d03c0f72cb22d2901fd5", func := "plinth/plinthlaw08.SectorRows", spec := "sectorRows", unfollowed := true, recurses := true, apart := false }
def SectorRowsSaid : Prop := sectorRowsRow.holds Try.pinned (OpenSpec.ofChange sectorRowsSpec)

/-- ITS FALSE NEIGHBOUR: 'it returns false'. Refute it at one input. -/
def sectorRowsWrong : ChangeSpec := { name := "sectorRows", fn := fun _ => fun
  | [d1, d2, d3, d4, d5] => { results := [.lit (.bool false)], args := [d1, d2, d3, d4, d5] }
  | _ => none }
def SectorRowsWrongFalsely : Prop := sectorRowsRow.holds Try.pinned (OpenSpec.ofChange sectorRowsWrong)

/-- 'plinthlaw08.SectorRuns': WHATEVER THE INPUT: true; the input reads as it did. -/
def sectorRunsSpec : ChangeSpec := { name := "sectorRuns", fn := fun _ => fun
  | [d1, d2, d3] => { results := [.lit (.bool true)], args := [d1, d2, d3] }
  | _ => none }
def sectorRunsRow : OpenClaim := { program := "ytaldjmhikebecaa", sum := "bdecea0b939bad79a116de0697c0e31f731ad6209254d03c0f72cb22d2901fd5", func := "plinth/plinthlaw08.SectorRuns", spec := "sectorRuns", unfollowed := true, recurses := true, apart := false }
def SectorRunsSaid : Prop := sectorRunsRow.holds Try.pinned (OpenSpec.ofChange sectorRunsSpec)

/-- ITS FALSE NEIGHBOUR: 'it returns false'. Refute it at one input. -/
def sectorRunsWrong : ChangeSpec := { name := "sectorRuns", fn := fun _ => fun
  | [d1, d2, d3] => { results := [.lit (.bool false)], args := [d1, d2, d3] }
  | _ => none }
def SectorRunsWrongFalsely : Prop := sectorRunsRow.holds Try.pinned (OpenSpec.ofChange sectorRunsWrong)

/-- 'plinthlaw08.SectorFast': WHATEVER THE INPUT: true; the input reads as it did. -/
def sectorFastSpec : ChangeSpec := { name := "sectorFast", fn := fun _ => fun
  | [d1, d2, d3, d4, d5] => { results := [.lit (.bool true)], args := [d1, d2, d3, d4, d5] }
  | _ => none }
def sectorFastRow : OpenClaim := { program := "ytaldjmhikebecaa", sum := "bdecea0b939bad79a116de0697c0e31f731ad6209254d03c0f72cb22d2901fd5", func := "plinth/plinthlaw08.SectorFast", spec := "sectorFast", inPlace := ["maps.clone"], unfollowed := true, recurses := true, apart := false }
def SectorFastSaid : Prop := sectorFastRow.holds Try.pinned (OpenSpec.ofChange sectorFastSpec)

/-- ITS FALSE NEIGHBOUR: 'it returns false'. Refute it at one input. -/
def sectorFastWrong : ChangeSpec := { name := "sectorFast", fn := fun _ => fun
  | [d1, d2, d3, d4, d5] => { results := [.lit (.bool false)], args := [d1, d2, d3, d4, d5] }
  | _ => none }
def SectorFastWrongFalsely : Prop := sectorFastRow.holds Try.pinned (OpenSpec.ofChange sectorFastWrong)

/-- 'plinthlaw08.SectorCopies': WHATEVER THE INPUT: true; the input reads as it did. -/
def sectorCopiesSpec : ChangeSpec := { name := "sectorCopies", fn := fun _ => fun
  | [d1, d2, d3, d4] => { results := [.lit (.bool true)], args := [d1, d2, d3, d4] }
  | _ => none }
def sectorCopiesRow : OpenClaim := { program := "ytaldjmhikebecaa", sum := "bdecea0b939bad79a116de0697c0e31f731ad6209254d03c0f72cb22d2901fd5", func := "plinth/plinthlaw08.SectorCopies", spec := "sectorCopies", inPlace := ["maps.clone"], unfollowed := true, recurses := true, apart := false }
def SectorCopiesSaid : Prop := sectorCopiesRow.holds Try.pinned (OpenSpec.ofChange sectorCopiesSpec)

/-- ITS FALSE NEIGHBOUR: 'it returns false'. Refute it at one input. -/
def sectorCopiesWrong : ChangeSpec := { name := "sectorCopies", fn := fun _ => fun
  | [d1, d2, d3, d4] => { results := [.lit (.bool false)], args := [d1, d2, d3, d4] }
  | _ => none }
def SectorCopiesWrongFalsely : Prop := sectorCopiesRow.holds Try.pinned (OpenSpec.ofChange sectorCopiesWrong)

/-- 'plinthlaw08.SectorNobody': WHATEVER THE INPUT: true; the input reads as it did. -/
def sectorNobodySpec : ChangeSpec := { name := "sectorNobody", fn := fun _ => fun
  | [d] => { results := [.lit (.bool true)], args := [d] }
  | _ => none }
def sectorNobodyRow : OpenClaim := { program := "ytaldjmhikebecaa", sum := "bdecea0b939bad79a116de0697c0e31f731ad6209254d03c0f72cb22d2901fd5", func := "plinth/plinthlaw08.SectorNobody", spec := "sectorNobody", inPlace := ["maps.clone"], unfollowed := true, recurses := true, apart := false }
def SectorNobodySaid : Prop := sectorNobodyRow.holds Try.pinned (OpenSpec.ofChange sectorNobodySpec)

/-- ITS FALSE NEIGHBOUR: 'it returns false'. Refute it at one input. -/
def sectorNobodyWrong : ChangeSpec := { name := "sectorNobody", fn := fun _ => fun
  | [d] => { results := [.lit (.bool false)], args := [d] }
  | _ => none }
def SectorNobodyWrongFalsely : Prop := sectorNobodyRow.holds Try.pinned (OpenSpec.ofChange sectorNobodyWrong)

/-- 'plinthlaw11.PagesNobody': WHATEVER THE INPUT: true; the input reads as it did. -/
def pagesNobodySpec : ChangeSpec := { name := "pagesNobody", fn := fun _ => fun
  | [d1, d2] => { results := [.lit (.bool true)], args := [d1, d2] }
  | _ => none }
def pagesNobodyRow : OpenClaim := { program := "ytaldjmhikebecaa", sum := "bdecea0b939bad79a116de0697c0e31f731ad6209254d03c0f72cb22d2901fd5", func := "plinth/plinthlaw11.PagesNobody", spec := "pagesNobody", unfollowed := true, recurses := true, apart := false }
def PagesNobodySaid : Prop := pagesNobodyRow.holds Try.pinned (OpenSpec.ofChange pagesNobodySpec)

/-- ITS FALSE NEIGHBOUR: 'it returns false'. Refute it at one input. -/
def pagesNobodyWrong : ChangeSpec := { name := "pagesNobody", fn := fun _ => fun
  | [d1, d2] => { results := [.lit (.bool false)], args := [d1, d2] }
  | _ => none }
def PagesNobodyWrongFalsely : Prop := pagesNobodyRow.holds Try.pinned (OpenSpec.ofChange pagesNobodyWrong)

/- THE SECOND FORM. 'bulk': how many values and letters a reading holds, each counted each time it is reached (what is shared counts as often as it is met; a slice's spare places count too). A statement '..UptoSaid' is the law's where the arguments, and the package variables that the reading takes, are together of bulk at most 1048576: NARROWER than '..Said'. Prove '..Said' where nothing that the law and all that it calls make is longer than what came in: it says more and counts as full. Else prove '..UptoSaid'. A law counts once. -/
mutual
def uptoBulk {H : Type} : DataW H → Nat
  | .lit (.string bytes) => bytes.length + 1
  | .lit _ => 1
  | .nil => 1
  | .ptr d => uptoBulk d + 1
  | .slice elems spare => uptoBulkAll elems + uptoBulkAll spare + 1
  | .agg parts => uptoBulkAll parts + 1
  | .iface _ d => uptoBulk d + 1
  | .map entries => uptoBulkEntries entries + 1
  | .held _ => 1
def uptoBulkAll {H : Type} : List (DataW H) → Nat
  | [] => 0
  | d :: r => uptoBulk d + uptoBulkAll r
def uptoBulkEntries {H : Type} : List (Lit × DataW H) → Nat
  | [] => 0
  | x :: r => uptoBulkEntry x + uptoBulkEntries r
def uptoBulkEntry {H : Type} : Lit × DataW H → Nat
  | (.string bytes, d) => bytes.length + uptoBulk d + 1
  | (_, d) => uptoBulk d + 1
 end
def uptoSmall : (H : Type) → List (DataW H) → Bool := fun _ ds => decide (uptoBulkAll ds ≤ 1048576)
def OpenSpec.upto (s : _root_.Go.ChangeSpec) : _root_.Go.OpenSpec := { _root_.Go.OpenSpec.ofChange s with cond := some uptoSmall }

/-- 'plinthlaw09.SuperForms', WHERE WHAT IT READS IS OF BULK AT MOST 1048576: true; the input reads as it did. -/
def superFormsUptoRow : OpenClaim := { program := "ytaldjmhikebecaa", sum := "bdecea0b939bad79a116de0697c0e31f731ad6209254d03c0f72cb22d2901fd5", func := "plinth/plinthlaw09.SuperForms", spec := "superForms", unfollowed := true, recurses := true, apart := false, narrowed := true }
def SuperFormsUptoSaid : Prop := superFormsUptoRow.holds Try.pinned (OpenSpec.upto superFormsSpec)

/-- 'plinthlaw09.SuperBack', WHERE WHAT IT READS IS OF BULK AT MOST 1048576: true; the input reads as it did. -/
def superBackUptoRow : OpenClaim := { program := "ytaldjmhikebecaa", sum := "bdecea0b939bad79a116de0697c0e31f731ad6209254d03c0f72cb22d2901fd5", func := "plinth/plinthlaw09.SuperBack", spec := "superBack", unfollowed := true, recurses := true, apart := false, narrowed := true }
def SuperBackUptoSaid : Prop := superBackUptoRow.holds Try.pinned (OpenSpec.upto superBackSpec)

/-- 'plinthlaw09.SuperSpoilt', WHERE WHAT IT READS IS OF BULK AT MOST 1048576: true; the input reads as it did. -/
def superSpoiltUptoRow : OpenClaim := { program := "ytaldjmhikebecaa", sum := "bdecea0b939bad79a116de0697c0e31f731ad6209254d03c0f72cb22d2901fd5", func := "plinth/plinthlaw09.SuperSpoilt", spec := "superSpoilt", unfollowed := true, recurses := true, apart := false, narrowed := true }
def SuperSpoiltUptoSaid : Prop := superSpoiltUptoRow.holds Try.pinned (OpenSpec.upto superSpoiltSpec)

/-- 'plinthlaw08.SectorRows', WHERE WHAT IT READS IS OF BULK AT MOST 1048576: true; the input reads as it did. -/
def sectorRowsUptoRow : OpenClaim := { program := "ytaldjmhikebecaa", sum := "bdecea0b939bad79a116de0697c0e31f731ad6209254d03c0f72cb22d2901fd5", func := "plinth/plinthlaw08.SectorRows", spec := "sectorRows", unfollowed := true, recurses := true, apart := false, narrowed := true }
def SectorRowsUptoSaid : Prop := sectorRowsUptoRow.holds Try.pinned (OpenSpec.upto sectorRowsSpec)

/-- 'plinthlaw08.SectorRuns', WHERE WHAT IT READS IS OF BULK AT MOST 1048576: true; the input reads as it did. -/
def sectorRunsUptoRow : OpenClaim := { program := "ytaldjmhikebecaa", sum := "bdecea0b939bad79a116de0697c0e31f731ad6209254d03c0f72cb22d2901fd5", func := "plinth/plinthlaw08.SectorRuns", spec := "sectorRuns", unfollowed := true, recurses := true, apart := false, narrowed := true }
def SectorRunsUptoSaid : Prop := sectorRunsUptoRow.holds Try.pinned (OpenSpec.upto sectorRunsSpec)

/-- 'plinthlaw08.SectorFast', WHERE WHAT IT READS IS OF BULK AT MOST 1048576: true; the input reads as it did. -/
def sectorFastUptoRow : OpenClaim := { program := "ytaldjmhikebecaa", sum := "bdecea0b939bad79a116de0697c0e31f731ad6209254d03c0f72cb22d2901fd5", func := "plinth/plinthlaw08.SectorFast", spec := "sectorFast", inPlace := ["maps.clone"], unfollowed := true, recurses := true, apart := false, narrowed := true }
def SectorFastUptoSaid : Prop := sectorFastUptoRow.holds Try.pinned (OpenSpec.upto sectorFastSpec)

/-- 'plinthlaw08.SectorCopies', WHERE WHAT IT READS IS OF BULK AT MOST 1048576: true; the input reads as it did. -/
def sectorCopiesUptoRow : OpenClaim := { program := "ytaldjmhikebecaa", sum := "bdecea0b939bad79a116de0697c0e31f731ad6209254d03c0f72cb22d2901fd5", func := "plinth/plinthlaw08.SectorCopies", spec := "sectorCopies", inPlace := ["maps.clone"], unfollowed := true, recurses := true, apart := false, narrowed := true }
def SectorCopiesUptoSaid : Prop := sectorCopiesUptoRow.holds Try.pinned (OpenSpec.upto sectorCopiesSpec)

/-- 'plinthlaw08.SectorNobody', WHERE WHAT IT READS IS OF BULK AT MOST 1048576: true; the input reads as it did. -/
def sectorNobodyUptoRow : OpenClaim := { program := "ytaldjmhikebecaa", sum := "bdecea0b939bad79a116de0697c0e31f731ad6209254d03c0f72cb22d2901fd5", func := "plinth/plinthlaw08.SectorNobody", spec := "sectorNobody", inPlace := ["maps.clone"], unfollowed := true, recurses := true, apart := false, narrowed := true }
def SectorNobodyUptoSaid : Prop := sectorNobodyUptoRow.holds Try.pinned (OpenSpec.upto sectorNobodySpec)

/-- 'plinthlaw11.PagesNobody', WHERE WHAT IT READS IS OF BULK AT MOST 1048576: true; the input reads as it did. -/
def pagesNobodyUptoRow : OpenClaim := { program := "ytaldjmhikebecaa", sum := "bdecea0b939bad79a116de0697c0e31f731ad6209254d03c0f72cb22d2901fd5", func := "plinth/plinthlaw11.PagesNobody", spec := "pagesNobody", unfollowed := true, recurses := true, apart := false, narrowed := true }
def PagesNobodyUptoSaid : Prop := pagesNobodyUptoRow.holds Try.pinned (OpenSpec.upto pagesNobodySpec)

end Rows
end Go.Proofs.Ytaldjmhikebecaa
