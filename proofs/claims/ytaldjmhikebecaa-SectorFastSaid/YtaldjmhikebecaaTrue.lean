/- What each law's walk ends in. -/
import Derived.Test.YtaldjmhikebecaaLib
namespace Go.Proofs.Ytaldjmhikebecaa
open Go Go.RowKit
def RetTrue (w : World) (e : Ending) (w' : World) : Prop := e = .returned (.bool true) ∧ Below w.heap.size w w'
end Go.Proofs.Ytaldjmhikebecaa
