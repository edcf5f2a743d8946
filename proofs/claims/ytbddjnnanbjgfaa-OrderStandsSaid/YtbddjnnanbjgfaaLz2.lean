/-
  A step of a region that draws its order: a slice of two events is made.
-/
import Derived.Test.YtbddjnnanbjgfaaOL
import Derived.Test.YtbddjnnanbjgfaaPost
namespace Go.Proofs.Ytbddjnnanbjgfaa
set_option linter.unusedVariables false
set_option linter.unusedSimpArgs false
open Go.RowKit

/-- A new slice of two events. -/
def TwoEv (x y : Ev) (u : Value) (w : World) : Prop := ∃ g, u = .slice (some ⟨g, 0, none⟩) 2 2 ∧ Blk w g 44 (ecells [x, y]).toArray
theorem TwoEv.keep (x y : Ev) (u : Value) (w w' : World) (h : TwoEv x y u w) (hb : Below w.heap.size w w') : TwoEv x y u w' := by
  obtain ⟨g, e, hB⟩ := h
  exact ⟨g, e, hB.below hb hB.lt⟩
theorem run_bs2_at (a b : Ev) (w : World) : (bs2 45 (.agg (evA a)) (.agg (evA b))).run Try.prog w = .ok (.value (.slice (some ⟨w.heap.size, 0, none⟩) 2 2)) (w.alloc (.cells (ecells [a, b]).toArray 44)) := run_bs2_ev a b w
section
variable {ops : Array Oper} {W : World} {E : List En} {Q : Act → Known → Prop} {i : Nat} {o : Oper} {rest : List Oper} {a : Act} {F : Known}
theorem lw_two (hw : Region.wanted o (yielded ops a.tmps) = true) (x y : Operand) (ho : o.op = .buildSlice 45 2 #[(0, x), (1, y)]) (ex ey : Ev) (hx : a.eval x = .agg (evA ex)) (hy : a.eval y = .agg (evA ey)) (hE : E[i]? = some (.rel (TwoEv ex ey) (TwoEv.keep ex ey)))
    (h : ∀ u, Lw Try.prog ops W E Q (i + 1) rest (a.put o.dst u) (F.ins i u)) : Lw Try.prog ops W E Q i (o :: rest) a F := by
  refine lw_new hw _ _ hE (fun w _ => ?_) h
  have e : execOp a.eval o = bs2 45 (.agg (evA ex)) (.agg (evA ey)) := by
    unfold execOp; rw [ho]; simp [bs2, hx, hy]
  exact ⟨_, _, by rw [e]; exact run_bs2_at ex ey w, (Below.refl _ _).alloc (Nat.le_refl _) _, _, rfl, Blk.new _ _ _⟩
end
end Go.Proofs.Ytbddjnnanbjgfaa
