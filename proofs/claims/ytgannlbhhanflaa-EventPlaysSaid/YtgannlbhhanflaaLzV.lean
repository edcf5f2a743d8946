/-
  Steps of a region that draws its order, over this program: loads of vectors, bytes as strings.
-/
import Derived.Test.YtgannlbhhanflaaProg
import Derived.Test.YtgannlbhhanflaaLz
import Derived.Test.YtgannlbhhanflaaByt
namespace Go.Proofs.Ytgannlbhhanflaa
set_option linter.unusedVariables false
set_option linter.unusedSimpArgs false
open Go.RowKit Go.BigFrame

section
variable {ops : Array Oper} {W w0 : World} {bs : List (Nat × TypeId × Array Value)} {E : List En} {Q : Act → Known → Prop} {i : Nat} {o : Oper} {rest : List Oper} {a : Act} {F : Known}
theorem lw_loadv (T : Trk w0 W bs) (hw : Region.wanted o (yielded ops a.tmps) = true) (x : Operand) (ho : o.op = .load 24 x) (g : Nat) (v : Vec) (hx : a.eval x = .pointer (some ⟨g, 0, none⟩)) (hE : E[i]? = some (.is (.agg (vecA v)))) (hm : (g, 24, vecA v) ∈ bs)
    (h : Lw Try.prog ops W E Q (i + 1) rest (a.put o.dst (.agg (vecA v))) (F.ins i (.agg (vecA v)))) : Lw Try.prog ops W E Q i (o :: rest) a F :=
  lw_val hw _ hE (fun w hb => by
    have hB := (T.blk _ _ _ hm).below hb (T.blk _ _ _ hm).lt
    obtain ⟨q, -⟩ := hB.rules
    have hl := hB.lt
    unfold execOp; rw [ho]; generalize a.eval = ρ at hx; simp [hx, go_sem, q]) h
theorem lw_neqv (hw : Region.wanted o (yielded ops a.tmps) = true) (x y : Operand) (t : TypeId) (ho : o.op = .binOp .neq 24 x y t) (v : Vec) (hx : a.eval x = .agg (vecA v)) (hy : a.eval y = .agg (vecA v)) (hE : E[i]? = some (.is (.bool false)))
    (h : Lw Try.prog ops W E Q (i + 1) rest (a.put o.dst (.bool false)) (F.ins i (.bool false))) : Lw Try.prog ops W E Q i (o :: rest) a F :=
  lw_val hw _ hE (fun w _ => by unfold execOp; rw [ho]; generalize a.eval = ρ at hx hy; simp [hx, hy, go_sem]) h
/-- A slice of bytes that stands, as a string. -/
theorem lw_conv (hw : Region.wanted o (yielded ops a.tmps) = true) (x : Operand) (ho : o.op = .convert 43 9 x) (z : Value) (hx : a.eval x = z) (l : List Int) (hz : BytesIs l z W) (hE : E[i]? = some (.is (.string (strOfNums l))))
    (h : Lw Try.prog ops W E Q (i + 1) rest (a.put o.dst (.string (strOfNums l))) (F.ins i (.string (strOfNums l)))) : Lw Try.prog ops W E Q i (o :: rest) a F :=
  lw_val hw _ hE (fun w hb => by
    have := run_conv_bytes 43 5 9 Try.underlying43 Try.underlying5 Try.underlying9 (hz.keep _ _ _ _ hb)
    unfold execOp; rw [ho]; generalize a.eval = ρ at hx; simp [hx, this]) h
theorem lw_convR (hw : Region.wanted o (yielded ops a.tmps) = true) (x : Operand) (ho : o.op = .convert 43 9 x) (k : Nat) (z : Value) (hx : a.eval x = z) (hk : needB o k = true) (hF : F k z) (l : List Int) (hEk : E[k]? = some (En.bytes l)) (hE : E[i]? = some (.is (.string (strOfNums l))))
    (h : Lw Try.prog ops W E Q (i + 1) rest (a.put o.dst (.string (strOfNums l))) (F.ins i (.string (strOfNums l)))) : Lw Try.prog ops W E Q i (o :: rest) a F :=
  lw_read hw k z hk hF _ _ hEk _ hE (fun w _ hr => by
    have := run_conv_bytes 43 5 9 Try.underlying43 Try.underlying5 Try.underlying9 hr
    unfold execOp; rw [ho]; generalize a.eval = ρ at hx; simp [hx, this]) h
theorem gives_rel {f : FuncId} {args : Array Value} {l : List Int} {w : World} (h : Calls Try.prog f args w (GivesB l w)) : Calls Try.prog f args w fun e w' => ∃ u, e = .returned u ∧ BytesIs l u w' ∧ Below w.heap.size w w' :=
  h.mono fun _ _ ⟨u, he, hown, hb⟩ => ⟨u, he, BytesIs.of_own hown, hb⟩
end
end Go.Proofs.Ytgannlbhhanflaa
