/-
  A new slice of events and a number, answered.
-/
import Derived.Test.YtgannlbhhanflaaEvs
namespace Go.Proofs.Ytgannlbhhanflaa
set_option linter.unusedVariables false
set_option linter.unusedSimpArgs false
open Go.RowKit

/-- A new slice of events and a number are answered. -/
def GivesEI (l : List Ev) (n : Int) (w : World) (e : Ending) (w' : World) : Prop := ∃ u, e = .returned (.tuple #[u, .int .i64 n]) ∧ w'.ownsRow w.heap.size 40 14 u l.length (ecells l) ∧ Below w.heap.size w w'
end Go.Proofs.Ytgannlbhhanflaa
