/-
  The walk of package net: Cut.
-/
import Derived.Test.YtnhjphmcdamoaaaNt3
namespace Go.Proofs.Ytnhjphmcdamoaaa
set_option linter.unusedVariables false
set_option linter.unusedSimpArgs false
open Go.RowKit
set_option maxRecDepth 100000

set_option maxHeartbeats 2000000 in
theorem ncut (h : Nat) (s : Value) (C : Nat → Bool) (i j : Nat) (hi : i < 6) (hj : j < 6) (hij : i ≠ j) (w0 w : World) (T : Trk w0 w [(h, 82, netA s C)]) (hB : w0.heap.size ≤ h) :
    Calls Try.prog 36 #[.pointer (some ⟨h, 0, none⟩), .int .i64 ((i : Int) + 1), .int .i64 ((j : Int) + 1)] w fun e w' => e = .returned (.int .i64 0) ∧ Trk w0 w' [(h, 82, netA s (cutSet (cutSet C (i * 6 + j) true) (j * 6 + i) true))] ∧ Fr w w' h none := by
  have C1 := Lib.hid (nregion_is ((i : Int) + 1) true (regE_yes i hi))
  have C2 := Lib.hid (nregion_is ((j : Int) + 1) true (regE_yes j hj))
  have e1 : ((i : Int) + 1 == (j : Int) + 1) = false := by rw [beq_eq_false_iff_ne]; omega
  have a1 : (0 : Int) ≤ (i : Int) := by omega
  have a2 : (i : Int) < 6 := by omega
  have a3 : (0 : Int) ≤ (j : Int) := by omega
  have a4 : (j : Int) < 6 := by omega
  obtain ⟨q0, f0, -⟩ := T.rules
  have l0 := T.lt
  have g1 := netA_get s C (i * 6 + j) (by omega)
  have g2 := netA_get s C (j * 6 + i) (by omega)
  rw [← Nat.add_assoc] at g1 g2
  have n1 : ¬ 1 + i * 6 + j = 1 + j * 6 + i := by omega
  have n2 : ¬ 1 + j * 6 + i = 1 + i * 6 + j := by omega
  go_enter Try.func36, Try.ntmps36
  go_upto_region 7 with (go_at_call 62; (first | (with_reducible refine (C1.out _).mono ?_) | (with_reducible refine (C2.out _).mono ?_)); rintro r w1 ⟨rfl, rfl⟩)
  go_region
  have k1 := netA_set s C (i * 6 + j) (by omega) true
  have k2 := netA_set s (cutSet C (i * 6 + j) true) (j * 6 + i) (by omega) true
  rw [← Nat.add_assoc] at k1 k2
  have T2 := ((T.set_ hB trivial (1 + i * 6 + j) (.bool true)).set_ hB trivial (1 + j * 6 + i) (.bool true)).drew
  rw [k1, k2] at T2
  have F2 : Fr w _ h none := ((Fr.of_set (w := w) ⟨h, 1 + i * 6 + j, none⟩ rfl (.bool true)).set ⟨h, 1 + j * 6 + i, none⟩ rfl (.bool true)).drew
  clear k1 k2 q0 f0 g1 g2
  generalize World.drew _ = w2 at T2 F2 ⊢
  go_wp2_with fail
  go_ret
  exact ⟨rfl, T2, F2⟩
theorem ncutN {w0 w : World} {bs : List (Nat × TypeId × Array Value)} {h : Nat} {s : Value} {X : List Mc} {L : List Ms} {C : Nat → Bool} (N : Net w0 w bs h s X L C) (i j : Nat) (hi : i < 6) (hj : j < 6) (hij : i ≠ j) :
    Calls Try.prog 36 #[.pointer (some ⟨h, 0, none⟩), .int .i64 ((i : Int) + 1), .int .i64 ((j : Int) + 1)] w fun e w' => e = .returned (.int .i64 0) ∧ Net w0 w' bs h s X L (cutSet (cutSet C (i * 6 + j) true) (j * 6 + i) true) ∧ Fr w w' h none := by
  refine (ncut h s C i j hi hj hij w0 w (N.T.perm (by simp)) N.hB).mono ?_
  rintro e w' ⟨rfl, T, F⟩
  exact ⟨rfl, N.turn F (T.blk _ _ _ List.mem_cons_self), F⟩
end Go.Proofs.Ytnhjphmcdamoaaa
