/-
  The walk of VectorLattice, with the plain facts on greatest and least numbers.
-/
import Derived.Test.YtgannlbhhanflaaVecL
namespace Go.Proofs.Ytgannlbhhanflaa
set_option linter.unusedVariables false
set_option linter.unusedSimpArgs false
open Go.RowKit

namespace Vec
theorem ext2 {x y : Vec} (h : ∀ k, k < 6 → x.get k = y.get k) : x = y := ext_get h
theorem get_max (a b : Vec) (k : Nat) (h : k < 6) : (map2 max a b).get k = max (a.get k) (b.get k) := get_map2 max a b k h
theorem get_min (a b : Vec) (k : Nat) (h : k < 6) : (map2 min a b).get k = min (a.get k) (b.get k) := get_map2 min a b k h
theorem meet_join (a b : Vec) : map2 min a (map2 max a b) = a := ext2 fun k hk => by rw [get_min _ _ k hk, get_max _ _ k hk]; omega
theorem join_meet (a b : Vec) : map2 max a (map2 min a b) = a := ext2 fun k hk => by rw [get_max _ _ k hk, get_min _ _ k hk]; omega
theorem join_comm (a b : Vec) : map2 max b a = map2 max a b := ext2 fun k hk => by rw [get_max _ _ k hk, get_max _ _ k hk]; omega
theorem meet_comm (a b : Vec) : map2 min b a = map2 min a b := ext2 fun k hk => by rw [get_min _ _ k hk, get_min _ _ k hk]; omega
theorem dist1 (a b c : Vec) : map2 max (map2 min a b) (map2 min a c) = map2 min a (map2 max b c) := ext2 fun k hk => by
  simp only [get_max _ _ k hk, get_min _ _ k hk]; omega
theorem dist2 (a b c : Vec) : map2 min (map2 max a b) (map2 max a c) = map2 max a (map2 min b c) := ext2 fun k hk => by
  simp only [get_max _ _ k hk, get_min _ _ k hk]; omega
theorem join_eq_iff (a b : Vec) : decide (map2 max a b = b) = vlessB a b := max_eq_less a b
theorem meet_eq_iff (a b : Vec) : decide (map2 min a b = a) = vlessB a b := by
  rw [Bool.eq_iff_iff, vlessB_iff, decide_eq_true_eq]
  constructor
  · intro h k hk
    have := get_min a b k hk
    rw [h] at this
    omega
  · intro h
    refine ext_get fun k hk => ?_
    rw [get_min a b k hk]
    have := h k hk
    omega
theorem ok_max {a b : Vec} (ha : a.ok) (hb : b.ok) : (map2 max a b).ok := fun k hk => by
  rw [get_max _ _ k hk]; have := ha k hk; have := hb k hk; omega
theorem ok_min {a b : Vec} (ha : a.ok) (hb : b.ok) : (map2 min a b).ok := fun k hk => by
  rw [get_min _ _ k hk]; have := ha k hk; have := hb k hk; omega
end Vec
theorem lack_lattice (a b : Vec) (ha : a.ok) (hb : b.ok) (k : Nat) (hk : k ≤ 6) :
    (lackSum a b k + lackSum b a k) % 18446744073709551616 = lackSum (Vec.map2 min a b) (Vec.map2 max a b) k := by
  induction k with
  | zero => rfl
  | succ k ih =>
    have ih := ih (by omega)
    have := lackSum_range a b k
    have := lackSum_range b a k
    have := ha k (by omega)
    have := hb k (by omega)
    simp only [lackSum, lackOf, Vec.get_max _ _ k (by omega : k < 6), Vec.get_min _ _ k (by omega : k < 6)]
    by_cases h1 : a.get k < b.get k
    · rw [if_pos h1, if_neg (by omega), if_pos (by omega)]; omega
    · by_cases h2 : b.get k < a.get k
      · rw [if_neg h1, if_pos h2, if_pos (by omega)]; omega
      · rw [if_neg h1, if_neg h2, if_neg (by omega)]; omega
theorem lackSum_small (a b : Vec) (ha : ∀ k, k < 6 → 0 ≤ a.get k) (hb : ∀ k, k < 6 → 0 ≤ b.get k ∧ b.get k ≤ 1099511627776) : ∀ k, k ≤ 6 → lackSum a b k ≤ k * 1099511627776 ∧ (lackSum a b k = 0 ↔ ∀ j, j < k → b.get j ≤ a.get j)
  | 0, _ => ⟨by simp [lackSum], by simp [lackSum]⟩
  | k + 1, hk => by
    have ih := lackSum_small a b ha hb k (by omega)
    have r := lackSum_range a b k
    have h1 := ha k (by omega)
    have h2 := hb k (by omega)
    simp only [lackSum, lackOf]
    by_cases h : a.get k < b.get k
    · rw [if_pos h]
      refine ⟨by omega, fun e => by omega, fun e => ?_⟩
      have := e k (by omega)
      omega
    · rw [if_neg h]
      refine ⟨by omega, fun e j hj => ?_, fun e => ?_⟩
      · by_cases ej : j = k
        · subst ej; omega
        · exact ih.2.1 (by omega) j (by omega)
      · have := ih.2.2 fun j hj => e j (by omega)
        omega
theorem lack_less (a b : Vec) (ha : a.ok) (hb : b.ok) (mb : vmayB a = true) : (vlack b a == 0) = vlessB a b := by
  have hm : ∀ k, k < 6 → a.get k ≤ 1099511627776 := by
    have := vlessB_iff.1 ((vmayB_eq a).trans mb)
    exact fun k hk => by have h := this k hk; rw [Vec.get_ofFn _ k hk] at h; exact h
  have h := (lackSum_small b a (fun k hk => (hb k hk).1) (fun k hk => ⟨(ha k hk).1, hm k hk⟩) 6 (Nat.le_refl _)).2
  rw [Bool.eq_iff_iff, vlessB_iff, beq_iff_eq]
  exact h
end Go.Proofs.Ytgannlbhhanflaa
