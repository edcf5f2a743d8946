/-
  What the walk of leatref20.Get needs; bytes that are too short.
-/
import Derived.Test.YtolfnilickfneaaGJ
import Derived.Test.YtolfnilickfneaaMd
import Derived.Test.YtolfnilickfneaaRa
import Derived.Test.YtolfnilickfneaaBytO
namespace Go.Proofs.Ytolfnilickfneaa
set_option linter.unusedVariables false
set_option linter.unusedSimpArgs false
open Go.RowKit
set_option maxRecDepth 100000

/-- A message built of kind, from, to and what is known. -/
def bM4 (x y z u : Value) : Sem Next := do pure (.value (← Instr.build 54 #[(0, x), (1, y), (2, z), (3, u)]))
section
variable (ρ : Operand → Value) (dst : Option Tmp) (x y z u : Operand) (ty : TypeId) (pos : String) (after : Array Edge) (guard : Option (Nat × Bool))
theorem execOp_bM4 : execOp ρ { dst, op := .build 54 #[(0, x), (1, y), (2, z), (3, u)], type := ty, pos, after, guard } = bM4 (ρ x) (ρ y) (ρ z) (ρ u) := by simp [execOp, bM4]
end
theorem run_bM4 (k f t : Int) (d : Vec) (w : World) : (bM4 (.int .u8 k) (.int .i64 f) (.int .i64 t) (.agg (vecA d))).run Try.prog w = .ok (.value (.agg (mcA ⟨k, f, t, d, .slice none 0 0, 0, 0⟩))) w := by kernel_rfl
/-- A new message, all zero, that stands behind block B. -/
def NewMc (B : Nat) (u : Value) (w : World) : Prop := ∃ g, u = .pointer (some ⟨g, 0, none⟩) ∧ B ≤ g ∧ Blk w g 54 (mcA Mc.zero)
theorem NewMc.keep (B : Nat) (u : Value) (w w' : World) (h : NewMc B u w) (hb : Below w.heap.size w w') : NewMc B u w' := by
  obtain ⟨g, e, hg, hB⟩ := h
  exact ⟨g, e, hg, hB.below hb hB.lt⟩
theorem rget_short (A : Option Addr) (n cap : Nat) (w : World) (hn : n ≤ cap) (hm : cap ≤ maxLen) (h : n < 51) :
    Calls Try.prog 41 #[.slice A n cap] w (GivesM (Ms.zero, 5) w) := by
  have hm1 : cap ≤ 9223372036854775807 := hm
  have h2 : (n : Int) < 51 := by omega
  go_enter Try.func41, Try.ntmps41
  have T0 : Trk w _ [(w.heap.size, 54, mcA Mc.zero)] := (Trk.nil w).push (t := 54) (cs := mcA Mc.zero) rfl
  go_wp2_with fail
  refine bodyPost_ret (v := .tuple #[.agg (mcA Mc.zero), .int .i64 5]) (results_get (s1 := 2) (s2 := 3) (by kernel_rfl) _ w.heap.size Mc.zero 5 _ rfl rfl (T0.blk _ _ _ List.mem_cons_self)) rfl ?_
  exact ⟨.slice none 0 0, rfl, World.ownsRow_nil _ _ _ _, T0.below⟩
end Go.Proofs.Ytolfnilickfneaa
