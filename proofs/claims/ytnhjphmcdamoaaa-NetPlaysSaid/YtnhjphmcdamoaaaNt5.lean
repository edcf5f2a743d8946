/-
  The walk of package net: Cut, refused.
-/
import Derived.Test.YtnhjphmcdamoaaaNt4
namespace Go.Proofs.Ytnhjphmcdamoaaa
set_option linter.unusedVariables false
set_option linter.unusedSimpArgs false
open Go.RowKit
set_option maxRecDepth 100000

theorem ncut_nil (i j : Int) (w : World) : Calls Try.prog 36 #[.pointer none, .int .i64 i, .int .i64 j] w fun e w' => e = .returned (.int .i64 2) ∧ w = w' := by
  go_enter Try.func36, Try.ntmps36
  go_wp2_with fail
  go_ret
  exact ⟨rfl, rfl⟩
theorem ncut_bad (h : Nat) (i j : Int) (hb : regE i = false ∨ (regE i = true ∧ regE j = false) ∨ (regE i = true ∧ regE j = true ∧ (i == j) = true)) (w : World) : Calls Try.prog 36 #[.pointer (some ⟨h, 0, none⟩), .int .i64 i, .int .i64 j] w fun e w' => e = .returned (.int .i64 10) ∧ w = w' := by
  rcases hb with h1 | ⟨h1, h2⟩ | ⟨h1, h2, h3⟩
  · have C1 := Lib.hid (nregion_is i _ h1)
    clear h1
    go_enter Try.func36, Try.ntmps36
    go_wp2_with (go_at_call 62; (with_reducible refine (C1.out _).mono ?_); rintro r w1 ⟨rfl, rfl⟩)
    go_ret
    exact ⟨rfl, rfl⟩
  · have C1 := Lib.hid (nregion_is i _ h1)
    have C2 := Lib.hid (nregion_is j _ h2)
    clear h1 h2
    go_enter Try.func36, Try.ntmps36
    go_wp2_with (go_at_call 62; (first | (with_reducible refine (C1.out _).mono ?_) | (with_reducible refine (C2.out _).mono ?_)); rintro r w1 ⟨rfl, rfl⟩)
    go_ret
    exact ⟨rfl, rfl⟩
  · have C1 := Lib.hid (nregion_is i _ h1)
    have C2 := Lib.hid (nregion_is j _ h2)
    clear h1 h2
    go_enter Try.func36, Try.ntmps36
    go_wp2_with (go_at_call 62; (first | (with_reducible refine (C1.out _).mono ?_) | (with_reducible refine (C2.out _).mono ?_)); rintro r w1 ⟨rfl, rfl⟩)
    go_ret
    exact ⟨rfl, rfl⟩
end Go.Proofs.Ytnhjphmcdamoaaa
