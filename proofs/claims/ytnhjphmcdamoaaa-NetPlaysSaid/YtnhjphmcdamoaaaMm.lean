/-
  The walk of package message: May.
-/
import Derived.Test.YtnhjphmcdamoaaaMw
namespace Go.Proofs.Ytnhjphmcdamoaaa
set_option linter.unusedVariables false
set_option linter.unusedSimpArgs false
open Go.RowKit
set_option maxRecDepth 100000

theorem ERows.next {w w' : World} {A : Option Addr} {L : List Ev} (h : ERows w w.heap.size A L) (hb : Below w.heap.size w w') : ERows w' w'.heap.size A L := (h.below hb).mono hb.size
theorem mmayB_ends {m : Ms} (h : endsB m = false) : mmayB m = false := by unfold mmayB; rw [h]; rfl
theorem mmayB_sync {m : Ms} (h : endsB m = true) (k : m.k = 1) : mmayB m = syncB m := by unfold mmayB; rw [h, if_pos k]; rfl
theorem mmayB_ask {m : Ms} (h : endsB m = true) (k : m.k = 2) : mmayB m = askB m := by unfold mmayB; rw [h, if_neg (by omega), if_pos k]; rfl
theorem mmayB_kind {m : Ms} (k1 : m.k ≠ 1) (k2 : m.k ≠ 2) : mmayB m = false := by unfold mmayB; rw [if_neg k1, if_neg k2, Bool.and_false]
theorem mmay_ends (m : Ms) (h : endsB m = false) (A : Option Addr) (c : Nat) (w : World) : Calls Try.prog 59 #[.agg (mcA ⟨m.k, m.f, m.t, m.d, .slice A m.l.length c, m.n, m.a⟩)] w fun r w' => r = .returned (.bool false) ∧ Below w.heap.size w w' := by
  have hcase : regE m.f = false ∨ (regE m.f = true ∧ regE m.t = false) ∨ (regE m.f = true ∧ regE m.t = true ∧ (m.f == m.t) = true) ∨ (regE m.f = true ∧ regE m.t = true ∧ (m.f == m.t) = false ∧ vmayB m.d = false) := by
    unfold endsB at h
    cases h1 : regE m.f
    · exact .inl rfl
    · cases h2 : regE m.t
      · exact .inr (.inl ⟨rfl, rfl⟩)
      · by_cases h3 : m.f = m.t
        · exact .inr (.inr (.inl ⟨rfl, rfl, by rw [beq_iff_eq]; exact h3⟩))
        · refine .inr (.inr (.inr ⟨rfl, rfl, by rw [beq_eq_false_iff_ne]; exact h3, ?_⟩))
          rw [h1, h2] at h
          simpa [h3] using h
  clear h
  rcases hcase with h1 | ⟨h1, h2⟩ | ⟨h1, h2, h3⟩ | ⟨h1, h2, h3, h4⟩
  · have C1 := Lib.hid (mregion_is m.f _ h1)
    clear h1
    go_enter Try.func59, Try.ntmps59
    go_wp2_with (go_at_call 67; (first | (with_reducible refine (C1.out _).mono ?_)); rintro r w1 ⟨rfl, rfl⟩)
    go_ret
    exact ⟨rfl, (Below.refl _ _).alloc (Nat.le_refl _) _⟩
  · have C1 := Lib.hid (mregion_is m.f _ h1)
    have C2 := Lib.hid (mregion_is m.t _ h2)
    clear h1 h2
    go_enter Try.func59, Try.ntmps59
    go_wp2_with (go_at_call 67; (first | (with_reducible refine (C1.out _).mono ?_) | (with_reducible refine (C2.out _).mono ?_)); rintro r w1 ⟨rfl, rfl⟩)
    go_ret
    exact ⟨rfl, (Below.refl _ _).alloc (Nat.le_refl _) _⟩
  · have C1 := Lib.hid (mregion_is m.f _ h1)
    have C2 := Lib.hid (mregion_is m.t _ h2)
    clear h1 h2
    go_enter Try.func59, Try.ntmps59
    go_wp2_with (go_at_call 67; (first | (with_reducible refine (C1.out _).mono ?_) | (with_reducible refine (C2.out _).mono ?_)); rintro r w1 ⟨rfl, rfl⟩)
    go_ret
    exact ⟨rfl, (Below.refl _ _).alloc (Nat.le_refl _) _⟩
  · have C1 := Lib.hid (mregion_is m.f _ h1)
    have C2 := Lib.hid (mregion_is m.t _ h2)
    have C3 := Lib.hid (vmay' m.d _ h4)
    clear h1 h2 h4
    go_enter Try.func59, Try.ntmps59
    go_wp2_with (go_at_call 67; (first | (with_reducible refine (C1.out _).mono ?_) | (with_reducible refine (C2.out _).mono ?_)); rintro r w1 ⟨rfl, rfl⟩)
    refine (C3.out _).mono ?_
    rintro r w2 ⟨rfl, hb2⟩
    go_wp2_with fail
    go_ret
    exact ⟨rfl, ((Below.refl _ _).alloc (Nat.le_refl _) _).trans (hb2.mono (by simp))⟩
theorem rmay20_ends (m : Ms) (h : endsB m = false) (A : Option Addr) (c : Nat) (w : World) : Calls Try.prog 64 #[.agg (mcA ⟨m.k, m.f, m.t, m.d, .slice A m.l.length c, m.n, m.a⟩)] w fun r w' => r = .returned (.bool false) ∧ Below w.heap.size w w' := by
  have hcase : regE m.f = false ∨ (regE m.f = true ∧ regE m.t = false) ∨ (regE m.f = true ∧ regE m.t = true ∧ (m.f == m.t) = true) ∨ (regE m.f = true ∧ regE m.t = true ∧ (m.f == m.t) = false ∧ vmayB m.d = false) := by
    unfold endsB at h
    cases h1 : regE m.f
    · exact .inl rfl
    · cases h2 : regE m.t
      · exact .inr (.inl ⟨rfl, rfl⟩)
      · by_cases h3 : m.f = m.t
        · exact .inr (.inr (.inl ⟨rfl, rfl, by rw [beq_iff_eq]; exact h3⟩))
        · refine .inr (.inr (.inr ⟨rfl, rfl, by rw [beq_eq_false_iff_ne]; exact h3, ?_⟩))
          rw [h1, h2] at h
          simpa [h3] using h
  clear h
  rcases hcase with h1 | ⟨h1, h2⟩ | ⟨h1, h2, h3⟩ | ⟨h1, h2, h3, h4⟩
  · have C1 := Lib.hid (rregion20_is m.f _ h1)
    clear h1
    go_enter Try.func64, Try.ntmps64
    go_wp2_with (go_at_call 72; (first | (with_reducible refine (C1.out _).mono ?_)); rintro r w1 ⟨rfl, rfl⟩)
    go_ret
    exact ⟨rfl, (Below.refl _ _).alloc (Nat.le_refl _) _⟩
  · have C1 := Lib.hid (rregion20_is m.f _ h1)
    have C2 := Lib.hid (rregion20_is m.t _ h2)
    clear h1 h2
    go_enter Try.func64, Try.ntmps64
    go_wp2_with (go_at_call 72; (first | (with_reducible refine (C1.out _).mono ?_) | (with_reducible refine (C2.out _).mono ?_)); rintro r w1 ⟨rfl, rfl⟩)
    go_ret
    exact ⟨rfl, (Below.refl _ _).alloc (Nat.le_refl _) _⟩
  · have C1 := Lib.hid (rregion20_is m.f _ h1)
    have C2 := Lib.hid (rregion20_is m.t _ h2)
    clear h1 h2
    go_enter Try.func64, Try.ntmps64
    go_wp2_with (go_at_call 72; (first | (with_reducible refine (C1.out _).mono ?_) | (with_reducible refine (C2.out _).mono ?_)); rintro r w1 ⟨rfl, rfl⟩)
    go_ret
    exact ⟨rfl, (Below.refl _ _).alloc (Nat.le_refl _) _⟩
  · have C1 := Lib.hid (rregion20_is m.f _ h1)
    have C2 := Lib.hid (rregion20_is m.t _ h2)
    have C3 := Lib.hid (rmay m.d _ h4)
    clear h1 h2 h4
    go_enter Try.func64, Try.ntmps64
    go_wp2_with (go_at_call 72; (first | (with_reducible refine (C1.out _).mono ?_) | (with_reducible refine (C2.out _).mono ?_)); rintro r w1 ⟨rfl, rfl⟩)
    refine (C3.out _).mono ?_
    rintro r w2 ⟨rfl, hb2⟩
    go_wp2_with fail
    go_ret
    exact ⟨rfl, ((Below.refl _ _).alloc (Nat.le_refl _) _).trans (hb2.mono (by simp))⟩
end Go.Proofs.Ytnhjphmcdamoaaa
