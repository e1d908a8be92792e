/-
  No cell of these rows narrows 'for every input' (looked for: loops, veiled, ifaces, maps, wideKeys, modest, calm, conditions, laid).
  DERIVED. THE GIVEN ROWS OF THIS SEAT. 3 by the template 'for every input the law returns true; each argument reads behind the call as it read before'; 0 by the template 'total and deterministic' (their statements: YtaldjmhikebecaaGreatTotals.lean).
  GIVEN WITH THE SEED: the statements are not yours to turn. If you find one false, say at which input.
  Laid BY PROGRAM, IN A SANDBOX (cutbox-rows.mjs): the forced cells as the released guide's own fill.sh prints them over the translation 3bfbc980925de7bd… (all of the seat's roots in one cut). By AI agents, Wed Nov 11 2026. No macro, syntax, notation, axiom, sorry.
-/
import Derived.Test.YtaldjmhikebecaaGreatChecked
import GoSem.Claim
import GoSem.ClaimJoined
import GoSem.ClaimMapViews
import Derived.JoinedTies
import Derived.KernelRfl
namespace Go.Proofs.YtaldjmhikebecaaGreat
/- THE CELL 'sum', in the pinned program and in every row, IS THE sha256 OF THE DUMP (.gsa) THAT YtaldjmhikebecaaGreatProg.lean LOADS. Nothing in Lean hashes anything: it is a label: what it is worth is what the hold of that sum in a sandbox is worth. -/
noncomputable def Tryz.pinned : Pinned := { name := "ytaldjmhikebecaagreat", sum := "3bfbc980925de7bdc2233f750649a0ac06a0bb8471eee7dccc2083c056d05a12", checked := Tryz.checked }
namespace Rows
def none {H : Type} : Left H := { results := [], args := [] }

/-- 'plinthlaw11.PagesRooms': WHATEVER THE INPUT: true; the input reads as it did. -/
def pagesRoomsSpec : ChangeSpec := { name := "pagesRooms", fn := fun _ => fun
  | [d1, d2, d3] => { results := [.lit (.bool true)], args := [d1, d2, d3] }
  | _ => none }
def pagesRoomsRow : OpenClaim := { program := "ytaldjmhikebecaagreat", sum := "3bfbc980925de7bdc2233f750649a0ac06a0bb8471eee7dccc2083c056d05a12", func := "plinth/plinthlaw11.PagesRooms", spec := "pagesRooms", unfollowed := true, recurses := true, apart := false }
def PagesRoomsSaid : Prop := pagesRoomsRow.holds Tryz.pinned (OpenSpec.ofChange pagesRoomsSpec)

/-- ITS FALSE NEIGHBOUR: 'it returns false'. Refute it at one input. -/
def pagesRoomsWrong : ChangeSpec := { name := "pagesRooms", fn := fun _ => fun
  | [d1, d2, d3] => { results := [.lit (.bool false)], args := [d1, d2, d3] }
  | _ => none }
def PagesRoomsWrongFalsely : Prop := pagesRoomsRow.holds Tryz.pinned (OpenSpec.ofChange pagesRoomsWrong)

/-- 'plinthlaw09.SuperCrash': WHATEVER THE INPUT: true; the input reads as it did. -/
def superCrashSpec : ChangeSpec := { name := "superCrash", fn := fun _ => fun
  | [d1, d2, d3, d4] => { results := [.lit (.bool true)], args := [d1, d2, d3, d4] }
  | _ => none }
def superCrashRow : OpenClaim := { program := "ytaldjmhikebecaagreat", sum := "3bfbc980925de7bdc2233f750649a0ac06a0bb8471eee7dccc2083c056d05a12", func := "plinth/plinthlaw09.SuperCrash", spec := "superCrash", inPlace := ["maps.clone"], unfollowed := true, recurses := true, apart := false }
def SuperCrashSaid : Prop := superCrashRow.holds Tryz.pinned (OpenSpec.ofChange superCrashSpec)

/-- ITS FALSE NEIGHBOUR: 'it returns false'. Refute it at one input. -/
def superCrashWrong : ChangeSpec := { name := "superCrash", fn := fun _ => fun
  | [d1, d2, d3, d4] => { results := [.lit (.bool false)], args := [d1, d2, d3, d4] }
  | _ => none }
def SuperCrashWrongFalsely : Prop := superCrashRow.holds Tryz.pinned (OpenSpec.ofChange superCrashWrong)

/-- 'plinthlaw09.SuperRuns': WHATEVER THE INPUT: true; the input reads as it did. -/
def superRunsSpec : ChangeSpec := { name := "superRuns", fn := fun _ => fun
  | [d1, d2, d3] => { results := [.lit (.bool true)], args := [d1, d2, d3] }
  | _ => none }
def superRunsRow : OpenClaim := { program := "ytaldjmhikebecaagreat", sum := "3bfbc980925de7bdc2233f750649a0ac06a0bb8471eee7dccc2083c056d05a12", func := "plinth/plinthlaw09.SuperRuns", spec := "superRuns", unfollowed := true, recurses := true, apart := false }
def SuperRunsSaid : Prop := superRunsRow.holds Tryz.pinned (OpenSpec.ofChange superRunsSpec)

/-- ITS FALSE NEIGHBOUR: 'it returns false'. Refute it at one input. -/
def superRunsWrong : ChangeSpec := { name := "superRuns", fn := fun _ => fun
  | [d1, d2, d3] => { results := [.lit (.bool false)], args := [d1, d2, d3] }
  | _ => none }
def SuperRunsWrongFalsely : Prop := superRunsRow.holds Tryz.pinned (OpenSpec.ofChange superRunsWrong)

/- THE SECOND FORM. 'bulk': how many values and letters a reading holds, each counted each time it is reached (what is shared counts as often as it is met; a slice's spare places count too). A statement '..UptoSaid' is the law's where the arguments, and the package variables that the reading takes, are together of bulk at most 1048576: NARROWER than '..Said'. Prove '..Said' where nothing that the law and all that it calls make is longer than what came in: it says more and counts as full. Else prove '..UptoSaid'. A law counts once. -/
mutual
def uptoBulk {H : Type} : DataW H → Nat
  | .lit (.string bytes) => bytes.length + 1
  | .lit _ => 1
  | .nil => 1
  | .ptr d => uptoBulk d + 1
  | .slice elems spare => uptoBulkAll elems + uptoBulkAll spare + 1
  | .agg parts => uptoBulkAll parts + 1
  | .iface _ d => uptoBulk d + 1
  | .map entries => uptoBulkEntries entries + 1
  | .held _ => 1
def uptoBulkAll {H : Type} : List (DataW H) → Nat
  | [] => 0
  | d :: r => uptoBulk d + uptoBulkAll r
def uptoBulkEntries {H : Type} : List (Lit × DataW H) → Nat
  | [] => 0
  | x :: r => uptoBulkEntry x + uptoBulkEntries r
def uptoBulkEntry {H : Type} : Lit × DataW H → Nat
  | (.string bytes, d) => bytes.length + uptoBulk d + 1
  | (_, d) => uptoBulk d + 1
 end
def uptoSmall : (H : Type) → List (DataW H) → Bool := fun _ ds => decide (uptoBulkAll ds ≤ 1048576)
def OpenSpec.upto (s : _root_.Go.ChangeSpec) : _root_.Go.OpenSpec := { _root_.Go.OpenSpec.ofChange s with cond := some uptoSmall }

/-- 'plinthlaw11.PagesRooms', WHERE WHAT IT READS IS OF BULK AT MOST 1048576: true; the input reads as it did. -/
def pagesRoomsUptoRow : OpenClaim := { program := "ytaldjmhikebecaagreat", sum := "3bfbc980925de7bdc2233f750649a0ac06a0bb8471eee7dccc2083c056d05a12", func := "plinth/plinthlaw11.PagesRooms", spec := "pagesRooms", unfollowed := true, recurses := true, apart := false, narrowed := true }
def PagesRoomsUptoSaid : Prop := pagesRoomsUptoRow.holds Tryz.pinned (OpenSpec.upto pagesRoomsSpec)

/-- 'plinthlaw09.SuperCrash', WHERE WHAT IT READS IS OF BULK AT MOST 1048576: true; the input reads as it did. -/
def superCrashUptoRow : OpenClaim := { program := "ytaldjmhikebecaagreat", sum := "3bfbc980925de7bdc2233f750649a0ac06a0bb8471eee7dccc2083c056d05a12", func := "plinth/plinthlaw09.SuperCrash", spec := "superCrash", inPlace := ["maps.clone"], unfollowed := true, recurses := true, apart := false, narrowed := true }
def SuperCrashUptoSaid : Prop := superCrashUptoRow.holds Tryz.pinned (OpenSpec.upto superCrashSpec)

/-- 'plinthlaw09.SuperRuns', WHERE WHAT IT READS IS OF BULK AT MOST 1048576: true; the input reads as it did. -/
def superRunsUptoRow : OpenClaim := { program := "ytaldjmhikebecaagreat", sum := "3bfbc980925de7bdc2233f750649a0ac06a0bb8471eee7dccc2083c056d05a12", func := "plinth/plinthlaw09.SuperRuns", spec := "superRuns", unfollowed := true, recurses := true, apart := false, narrowed := true }
def SuperRunsUptoSaid : Prop := superRunsUptoRow.holds Tryz.pinned (OpenSpec.upto superRunsSpec)

end Rows
end Go.Proofs.YtaldjmhikebecaaGreat
