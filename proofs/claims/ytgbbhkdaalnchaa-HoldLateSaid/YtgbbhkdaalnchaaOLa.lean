/-
  Ready and Late as one contract each; an event built with its own vector (of OL and SrO, without the rows of chapter 10).
-/
import Derived.Test.YtgbbhkdaalnchaaGC
import Derived.Test.YtgbbhkdaalnchaaSoP
import Derived.Test.YtgbbhkdaalnchaaOs
namespace Go.Proofs.Ytgbbhkdaalnchaa
set_option linter.unusedVariables false
set_option linter.unusedSimpArgs false
open Go.RowKit
@[go_sem] theorem ev_putd (e : Ev) (d : Vec) : Array.foldl (fun (cs : Array Value) (x : Value × Nat) => cs.setIfInBounds (2 + x.snd) x.fst) (evA e) (vecA d).zipIdx 0 6 = evA { e with d := d } := by kernel_rfl
theorem oready' (v : Vec) (e : Ev) (hv : e.ok) (b : Bool) (h : readyB v e = b) (w : World) : Calls Try.prog 46 #[.agg (vecA v), .agg (evA e)] w fun r w' => r = .returned (.bool b) ∧ Below w.heap.size w w' := by
  subst h; exact oready v e hv w
theorem olate' (v : Vec) (e : Ev) (hv : e.ok) (b : Bool) (h : lateB v e = b) (w : World) : Calls Try.prog 45 #[.agg (vecA v), .agg (evA e)] w fun r w' => r = .returned (.bool b) ∧ Below w.heap.size w w' := by
  subst h; exact olate v e hv w
end Go.Proofs.Ytgbbhkdaalnchaa
