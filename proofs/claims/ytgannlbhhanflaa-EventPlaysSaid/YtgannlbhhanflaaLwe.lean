/-
  An event that is loaded, in a region that draws its order.
-/
import Derived.Test.YtgannlbhhanflaaLzV
import Derived.Test.YtgannlbhhanflaaEr2
namespace Go.Proofs.Ytgannlbhhanflaa
set_option linter.unusedVariables false
set_option linter.unusedSimpArgs false
open Go.RowKit

section
variable {ops : Array Oper} {W w0 : World} {bs : List (Nat × TypeId × Array Value)} {E : List En} {Q : Act → Known → Prop} {i : Nat} {o : Oper} {rest : List Oper} {a : Act} {F : Known}
theorem lw_loade (T : Trk w0 W bs) (hw : Region.wanted o (yielded ops a.tmps) = true) (x : Operand) (ho : o.op = .load 40 x) (g : Nat) (v : Ev) (hx : a.eval x = .pointer (some ⟨g, 0, none⟩)) (hE : E[i]? = some (.is (.agg (evA v)))) (hm : (g, 40, evA v) ∈ bs)
    (h : Lw Try.prog ops W E Q (i + 1) rest (a.put o.dst (.agg (evA v))) (F.ins i (.agg (evA v)))) : Lw Try.prog ops W E Q i (o :: rest) a F :=
  lw_val hw _ hE (fun w hb => by
    have hB := (T.blk _ _ _ hm).below hb (T.blk _ _ _ hm).lt
    obtain ⟨q, -⟩ := hB.rules
    have hl := hB.lt
    unfold execOp; rw [ho]; generalize a.eval = ρ at hx; simp [hx, go_sem, q]) h
end
end Go.Proofs.Ytgannlbhhanflaa
