/-
  What is under way, as cells: a slice and 36 cuts. No program here.
-/
import Derived.Test.YtnhjphmcdamoaaaGA
namespace Go.Proofs.Ytnhjphmcdamoaaa
set_option linter.unusedVariables false
set_option linter.unusedSimpArgs false
open Go.RowKit

/-- The cells of a net: the messages' slice, and who is cut from whom. -/
def netA (s : Value) (C : Nat → Bool) : Array Value := #[s, .bool (C 0), .bool (C 1), .bool (C 2), .bool (C 3), .bool (C 4), .bool (C 5), .bool (C 6), .bool (C 7), .bool (C 8), .bool (C 9), .bool (C 10), .bool (C 11), .bool (C 12), .bool (C 13), .bool (C 14), .bool (C 15), .bool (C 16), .bool (C 17), .bool (C 18), .bool (C 19), .bool (C 20), .bool (C 21), .bool (C 22), .bool (C 23), .bool (C 24), .bool (C 25), .bool (C 26), .bool (C 27), .bool (C 28), .bool (C 29), .bool (C 30), .bool (C 31), .bool (C 32), .bool (C 33), .bool (C 34), .bool (C 35)]
theorem netA_size (s : Value) (C : Nat → Bool) : (netA s C).size = 37 := rfl
theorem netA_0 (s : Value) (C : Nat → Bool) : (netA s C)[0]? = some s := rfl
theorem netA_get (s : Value) (C : Nat → Bool) (i : Nat) (h : i < 36) : (netA s C)[1 + i]? = some (.bool (C i)) := by
  match i, h with
  | 0, _ => rfl
  | 1, _ => rfl
  | 2, _ => rfl
  | 3, _ => rfl
  | 4, _ => rfl
  | 5, _ => rfl
  | 6, _ => rfl
  | 7, _ => rfl
  | 8, _ => rfl
  | 9, _ => rfl
  | 10, _ => rfl
  | 11, _ => rfl
  | 12, _ => rfl
  | 13, _ => rfl
  | 14, _ => rfl
  | 15, _ => rfl
  | 16, _ => rfl
  | 17, _ => rfl
  | 18, _ => rfl
  | 19, _ => rfl
  | 20, _ => rfl
  | 21, _ => rfl
  | 22, _ => rfl
  | 23, _ => rfl
  | 24, _ => rfl
  | 25, _ => rfl
  | 26, _ => rfl
  | 27, _ => rfl
  | 28, _ => rfl
  | 29, _ => rfl
  | 30, _ => rfl
  | 31, _ => rfl
  | 32, _ => rfl
  | 33, _ => rfl
  | 34, _ => rfl
  | 35, _ => rfl
  | n + 36, h => exact absurd h (by omega)
theorem netA_set0 (s u : Value) (C : Nat → Bool) : (netA s C).setIfInBounds 0 u = netA u C := rfl
/-- One cut turned. -/
def cutSet (C : Nat → Bool) (i : Nat) (b : Bool) : Nat → Bool := fun j => if j = i then b else C j
theorem netA_set (s : Value) (C : Nat → Bool) (i : Nat) (h : i < 36) (b : Bool) : (netA s C).setIfInBounds (1 + i) (.bool b) = netA s (cutSet C i b) := by
  match i, h with
  | 0, _ => rfl
  | 1, _ => rfl
  | 2, _ => rfl
  | 3, _ => rfl
  | 4, _ => rfl
  | 5, _ => rfl
  | 6, _ => rfl
  | 7, _ => rfl
  | 8, _ => rfl
  | 9, _ => rfl
  | 10, _ => rfl
  | 11, _ => rfl
  | 12, _ => rfl
  | 13, _ => rfl
  | 14, _ => rfl
  | 15, _ => rfl
  | 16, _ => rfl
  | 17, _ => rfl
  | 18, _ => rfl
  | 19, _ => rfl
  | 20, _ => rfl
  | 21, _ => rfl
  | 22, _ => rfl
  | 23, _ => rfl
  | 24, _ => rfl
  | 25, _ => rfl
  | 26, _ => rfl
  | 27, _ => rfl
  | 28, _ => rfl
  | 29, _ => rfl
  | 30, _ => rfl
  | 31, _ => rfl
  | 32, _ => rfl
  | 33, _ => rfl
  | 34, _ => rfl
  | 35, _ => rfl
  | n + 36, h => exact absurd h (by omega)
end Go.Proofs.Ytnhjphmcdamoaaa
