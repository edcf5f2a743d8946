/-
  The walks of the document's package leatref08: fields, May.
-/
import Derived.Test.YtgannlbhhanflaaEr2
namespace Go.Proofs.Ytgannlbhhanflaa
set_option linter.unusedVariables false
set_option linter.unusedSimpArgs false
open Go.RowKit

set_option maxHeartbeats 1000000 in
theorem rfields (e : Ev) (w : World) : Calls Try.prog 59 #[.agg (evA e)] w fun r w' => r = .returned (.bool (fieldsB e)) ∧ Below w.heap.size w w' := by
  obtain ⟨b, hb⟩ : ∃ b, regE e.t = b := ⟨_, rfl⟩
  have C1 := Lib.hid (rregion_is e.t b hb)
  have HB := Lib.hid (show toB e = (b && decide (e.t ≠ e.o)) by unfold toB; rw [hb])
  clear hb
  go_enter Try.func59, Try.ntmps59
  go_upto_region 1 with fail
  go_cut [3] (fun s3 wx => s3 = .bool (amountB 1 e) ∧ wx = w.alloc (.cells (evA e) 40))
  case first =>
    go_wp2_with fail
    all_goals
      go_meet
      exact ⟨by simp [amountB] <;> omega, rfl⟩
  case rest =>
    obtain ⟨rfl, rfl⟩ := hcut
    go_upto_region 2 with fail
    go_cut [4] (fun s4 wx => s4 = .bool (toB e) ∧ wx = w.alloc (.cells (evA e) 40))
    case first =>
      rcases (show b = false ∨ b = true from by cases b <;> simp) with rfl | rfl
      all_goals
        go_wp2_with (go_at_call 39; (with_reducible refine (C1.out _).mono ?_); rintro r w1 ⟨rfl, rfl⟩)
        go_meet
        exact ⟨by rw [HB.out]; first | rfl | (simp [bne]; rfl), rfl⟩
    case rest =>
      obtain ⟨rfl, rfl⟩ := hcut
      generalize hx : amountB 1 e = x
      generalize hy : toB e = y
      have HX := Lib.hid hx
      have HY := Lib.hid hy
      clear hx hy
      have hb1 : Below w.heap.size w (w.alloc (.cells (evA e) 40)) := (Below.refl _ _).alloc (Nat.le_refl _) _
      by_cases h1 : e.k = 1
      · go_wp2_with fail
        all_goals
          go_ret
          exact ⟨by simp [fieldsB, h1, amountB] <;> omega, hb1⟩
      by_cases h2 : e.k = 2
      · go_wp2_with fail
        go_ret
        exact ⟨by simp [fieldsB, h2, HX.out], hb1⟩
      by_cases h3 : e.k = 3
      · rcases (show x = false ∨ x = true from by cases x <;> simp) with rfl | rfl
        all_goals
          go_wp2_with fail
          go_ret
          exact ⟨by simp [fieldsB, h3, HX.out], hb1⟩
      by_cases h4 : e.k = 4
      · go_wp2_with fail
        all_goals
          go_ret
          refine ⟨?_, hb1⟩
          first
            | (have a1 : 1 ≤ e.r := by assumption
               have a2 : 1 ≤ e.f := by assumption
               simp [fieldsB, h4, bne, a1, a2]
               done)
            | (have a1 : 1 ≤ e.r := by assumption
               have a2 : 1 ≤ e.f := by assumption
               simp [fieldsB, h4, bne, a1, a2]
               rfl)
            | (simp [fieldsB, h4, bne] <;> omega)
      by_cases h5 : e.k = 5
      · rcases (show x = false ∨ x = true from by cases x <;> simp) with rfl | rfl
        all_goals
          go_wp2_with fail
          go_ret
          exact ⟨by simp [fieldsB, h5, HX.out, HY.out], hb1⟩
      by_cases h6 : e.k = 6
      · go_wp2_with fail
        go_ret
        exact ⟨by simp [fieldsB, h6, HY.out], hb1⟩
      · have k1 : (e.k == 1) = false := by rw [beq_eq_false_iff_ne]; exact h1
        have k2 : (e.k == 2) = false := by rw [beq_eq_false_iff_ne]; exact h2
        have k3 : (e.k == 3) = false := by rw [beq_eq_false_iff_ne]; exact h3
        have k4 : (e.k == 4) = false := by rw [beq_eq_false_iff_ne]; exact h4
        have k5 : (e.k == 5) = false := by rw [beq_eq_false_iff_ne]; exact h5
        have k6 : (e.k == 6) = false := by rw [beq_eq_false_iff_ne]; exact h6
        go_wp2_with fail
        go_ret
        exact ⟨by simp [fieldsB, h1, h2, h3, h4, h5, h6]; rfl, hb1⟩
end Go.Proofs.Ytgannlbhhanflaa
