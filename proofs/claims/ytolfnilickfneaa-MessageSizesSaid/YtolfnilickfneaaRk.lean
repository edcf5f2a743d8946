/-
  The walk of the document's leatref08.Take: outside, and its first half.
-/
import Derived.Test.YtolfnilickfneaaGK
import Derived.Test.YtolfnilickfneaaEk
import Derived.Test.YtolfnilickfneaaGG
import Derived.Test.YtolfnilickfneaaGA
import Derived.Test.YtolfnilickfneaaGC
namespace Go.Proofs.Ytolfnilickfneaa
set_option linter.unusedVariables false
set_option linter.unusedSimpArgs false
open Go.RowKit

theorem results_take2 {fn : Func} {s1 s2 s3 : Nat} (h : fn.results = #[.cell s1 41, .tmp s2, .tmp s3]) (tmps : Array Value) (g : Nat) (e : Ev) (n err : Int) (w : World) (ht : tmps.getD s1 undef = .pointer (some ⟨g, 0, none⟩)) (ht2 : tmps.getD s2 undef = .int .i64 n) (ht3 : tmps.getD s3 undef = .int .i64 err)
    (hb : Blk w g 41 (evA e)) : (results fn tmps).run Try.prog w = .ok (.tuple #[.agg (evA e), .int .i64 n, .int .i64 err]) w := by
  obtain ⟨q, -⟩ := hb.rules
  have h1 : tmps[s1]?.getD undef = .pointer (some ⟨g, 0, none⟩) := by rw [← ht]; simp
  have h2 : tmps[s2]?.getD undef = .int .i64 n := by rw [← ht2]; simp
  have h3 : tmps[s3]?.getD undef = .int .i64 err := by rw [← ht3]; simp
  simp [results, h, h1, h2, h3, go_sem, q]
set_option maxHeartbeats 1000000 in
theorem rtake_out (A : Option Addr) (n cap : Nat) (at_ : Int) (w : World) (hn : n ≤ cap) (hm : cap ≤ maxLen) (a0 : -9223372036854775808 ≤ at_) (a1 : at_ ≤ 9223372036854775807) (h : at_ < 0 ∨ (n : Int) < at_) :
    Calls Try.prog 29 #[.slice A n cap, .int .i64 at_] w (GivesT (Ev.zero, 0, 1) w) := by
  have hm1 : cap ≤ 9223372036854775807 := hm
  rcases h with h | h
  · go_enter Try.func29, Try.ntmps29
    go_wp2_with fail
    refine bodyPost_ret (v := .tuple #[.agg (evA Ev.zero), .int .i64 0, .int .i64 1]) (by simp [results, Try.results29, go_sem]) rfl ⟨rfl, ?_⟩
    go_grown
  · go_enter Try.func29, Try.ntmps29
    go_wp2_with fail
    refine bodyPost_ret (v := .tuple #[.agg (evA Ev.zero), .int .i64 0, .int .i64 1]) (by simp [results, Try.results29, go_sem]) rfl ⟨rfl, ?_⟩
    go_grown
set_option maxHeartbeats 1000000 in
theorem rtake_short (A : Option Addr) (n cap m : Nat) (w : World) (hn : n ≤ cap) (hm : cap ≤ maxLen) (h1 : m ≤ n) (h : n < m + 91) :
    Calls Try.prog 29 #[.slice A n cap, .int .i64 m] w (GivesT (Ev.zero, 0, 5) w) := by
  have hm1 : cap ≤ 9223372036854775807 := hm
  go_enter Try.func29, Try.ntmps29
  go_wp2_with fail
  refine bodyPost_ret (v := .tuple #[.agg (evA Ev.zero), .int .i64 0, .int .i64 5]) (by simp [results, Try.results29, go_sem]) rfl ⟨rfl, ?_⟩
  go_grown
/-- An event built of all but what was known. -/
def bEt (x0 x1 x3 x4 x5 x6 x7 x8 : Value) : Sem Next := do pure (.value (← Instr.build 41 #[(0, x0), (1, x1), (3, x3), (4, x4), (5, x5), (6, x6), (7, x7), (8, x8)]))
section
variable (ρ : Operand → Value) (dst : Option Tmp) (x0 x1 x3 x4 x5 x6 x7 x8 : Operand) (ty : TypeId) (pos : String) (after : Array Edge) (guard : Option (Nat × Bool))
theorem execOp_bEt : execOp ρ { dst, op := .build 41 #[(0, x0), (1, x1), (3, x3), (4, x4), (5, x5), (6, x6), (7, x7), (8, x8)], type := ty, pos, after, guard } = bEt (ρ x0) (ρ x1) (ρ x3) (ρ x4) (ρ x5) (ρ x6) (ρ x7) (ρ x8) := by simp [execOp, bEt]
end
theorem run_bEt (x0 x1 x3 x4 x5 x6 x7 x8 : Int) (w : World) : (bEt (.int .i64 x0) (.int .u64 x1) (.int .u8 x3) (.int .u64 x4) (.int .i64 x5) (.int .i64 x6) (.int .u64 x7) (.int .u64 x8)).run Try.prog w = .ok (.value (.agg (evA ⟨x0, x1, Vec.zero, x3, x4, x5, x6, x7, x8⟩))) w := by kernel_rfl
theorem evA_setD (e : Ev) (i : Nat) (hi : i < 6) (y : Int) : (evA e).setIfInBounds (2 + i) (.int .u64 y) = evA { e with d := e.d.set i y } := by
  match i, hi with
  | 0, _ => rfl
  | 1, _ => rfl
  | 2, _ => rfl
  | 3, _ => rfl
  | 4, _ => rfl
  | 5, _ => rfl
end Go.Proofs.Ytolfnilickfneaa
