/-
  Rights as cells; the walks of the document's package leatref07: number, region, local.
-/
import Derived.Test.YtgbbhkdaalnchaaAg
import Derived.Outline
namespace Go.Proofs.Ytgbbhkdaalnchaa
set_option linter.unusedVariables false
set_option linter.unusedSimpArgs false
open Go.RowKit Go
set_option maxRecDepth 100000

/-- Is it a number that may be? -/
def numB (x : Int) : Bool := decide (0 ≤ x) && decide (x ≤ 1125899906842624)
theorem r7number (x : Int) (w : World) : Calls Try.prog 92 #[.int .i64 x] w fun e w' => e = .returned (.bool (numB x)) ∧ w = w' := by
  by_cases h1 : 0 ≤ x <;> by_cases h2 : x ≤ 1125899906842624
  all_goals
    go_enter Try.func92, Try.ntmps92
    go_wp2
    go_ret
    exact ⟨by simp [numB, h1, h2], rfl⟩
def regI (x : Int) : Bool := decide (1 ≤ x) && decide (x ≤ 6)
theorem rregion7 (x : Int) (w : World) : Calls Try.prog 87 #[.int .i64 x] w fun e w' => e = .returned (.bool (regI x)) ∧ w = w' := by
  by_cases h1 : 1 ≤ x <;> by_cases h2 : x ≤ 6
  all_goals
    go_enter Try.func87, Try.ntmps87
    go_wp2
    go_ret
    exact ⟨by simp [regI, h1, h2], rfl⟩
def SomeInt (w : World) (e : Ending) (w' : World) : Prop := ∃ n : Int, e = .returned (.int .i64 n) ∧ Below w.heap.size w w'
theorem rlocal (f : Nat → Int) (k : Nat) (hk : k < 6) (w : World) : Calls Try.prog 88 #[.agg (rtA f), .int .i64 ((k : Int) + 1)] w (SomeInt w) := by
  go_enter Try.func88, Try.ntmps88
  go_wp2_with fail
  have T0 : Trk w _ [(w.heap.size, 110, rtA f)] := (Trk.nil w).push (t := 110) (cs := rtA f) rfl
  generalize w.alloc _ = W at T0 ⊢
  obtain ⟨q, -, -⟩ := T0.rules
  have k0 : (0 : Int) ≤ (k : Int) := by omega
  have k6 : (k : Int) < 6 := by omega
  have c0 := rtA_get f k (by omega)
  have c1 := rtA_get f (6 + k) (by omega)
  have c2 := rtA_get f (12 + k) (by omega)
  go_quiet (fail)
  have T1 := T0.drewN nq
  generalize W.drewN nq = W1 at T1
  clear q c0 c1 c2 T0
  go_wp2_with fail
  go_loopw [6, 7] (fun o j wr => ∃ (m : Nat) (x : Int), m ≤ 6 ∧ j = .int .i64 m ∧ o = .int .i64 x ∧ Trk w wr [(w.heap.size, 110, rtA f)]) (fun _ j _ => 6 - (intOf j).toNat)
  case atStart => exact ⟨0, _, by omega, rfl, rfl, T1⟩
  case round =>
    obtain ⟨m, x, hm, rfl, rfl, T⟩ := hrel
    clear T1
    by_cases hlt : m < 6
    · obtain ⟨q, -, -⟩ := T.rules
      have m0 : (0 : Int) ≤ (m : Int) := by omega
      have m6 : (m : Int) < 6 := by omega
      have hd : decide ((m : Int) < 6) = true := by simp; omega
      have c1 := rtA_get f (18 + m * 6 + k) (by omega)
      have c2 := rtA_get f (18 + k * 6 + m) (by omega)
      go_wp2_with fail
      go_quiet (fail)
      go_wp2_with fail
      go_roundw
      case rel => exact ⟨m + 1, _, by omega, by go_num, rfl, T.drewN _⟩
      case measure => simp [intOf]; omega
    · obtain rfl : m = 6 := by omega
      go_wp2_with fail
      go_ret
      exact ⟨_, rfl, T.below⟩
end Go.Proofs.Ytgbbhkdaalnchaa
