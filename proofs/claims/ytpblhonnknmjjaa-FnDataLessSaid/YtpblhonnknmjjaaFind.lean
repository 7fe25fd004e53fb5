/- What an index search hands back. -/
import Derived.Test.YtpblhonnknmjjaaRows
import Derived.Test.YtpblhonnknmjjaaTypes
import Derived.Shelf.Abstract
namespace Go.Proofs.Ytpblhonnknmjjaa
open Go.RowKit

def IdxPost {α : Type} (p : α → Bool) (xs : List α) (w : World) (e : Ending) (w' : World) : Prop :=
  ∃ n : Int, e = .returned (.int .i64 n) ∧ decide (0 ≤ n) = xs.any p ∧ Below w.heap.size w w'

end Go.Proofs.Ytpblhonnknmjjaa
