/-
  Events told twice, and turned: plain.
-/
import Derived.Test.YtbddjnnanbjgfaaSoQ
namespace Go.Proofs.Ytbddjnnanbjgfaa
set_option linter.unusedVariables false
set_option linter.unusedSimpArgs false
open Go.RowKit

/-- The events from the back, each with one that stands elsewhere. -/
def backL (L : List Ev) (t : Nat) : Nat → List Ev
  | 0 => []
  | k + 1 => backL L t k ++ [L.getD (L.length - 1 - k) Ev.zero, L.getD ((k * 7 + t) % L.length) Ev.zero]
theorem backL_length (L : List Ev) (t k : Nat) : (backL L t k).length = 2 * k := by
  induction k with
  | zero => rfl
  | succ k ih => unfold backL; rw [List.length_append, ih]; simp; omega
theorem getD_mem (L : List Ev) (i : Nat) (h : i < L.length) : L.getD i Ev.zero ∈ L := by
  rw [List.getD_eq_getElem?_getD, List.getElem?_eq_getElem h]; exact List.getElem_mem h
theorem backL_sub (L : List Ev) (t k : Nat) (hk : k ≤ L.length) : ∀ e ∈ backL L t k, e ∈ L := by
  induction k with
  | zero => intro e he; cases he
  | succ k ih =>
    intro e he
    unfold backL at he
    rcases List.mem_append.1 he with he | he
    · exact ih (by omega) e he
    · simp only [List.mem_cons, List.mem_nil_iff, or_false] at he
      rcases he with rfl | rfl
      · exact getD_mem L _ (by omega)
      · exact getD_mem L _ (Nat.mod_lt _ (by omega))
theorem backL_mem (L : List Ev) (t k : Nat) (j : Nat) (hj : j < k) : L.getD (L.length - 1 - j) Ev.zero ∈ backL L t k := by
  induction k with
  | zero => omega
  | succ k ih =>
    unfold backL
    by_cases h : j = k
    · subst h; simp
    · exact List.mem_append_left _ (ih (by omega))
theorem backL_same (L : List Ev) (t : Nat) : ∀ e, e ∈ L ↔ e ∈ backL L t L.length := by
  intro e
  refine ⟨fun h => ?_, backL_sub L t _ (Nat.le_refl _) e⟩
  obtain ⟨i, hi⟩ := List.getElem?_of_mem h
  have hlt := (List.getElem?_eq_some_iff.1 hi).1
  have := backL_mem L t L.length (L.length - 1 - i) (by omega)
  rwa [show L.length - 1 - (L.length - 1 - i) = i from by omega, getD_of hi] at this
theorem sort_back (L : List Ev) (t : Nat) (hu : Like L) : sortS (backL L t L.length) = sortS L :=
  sortS_same L _ (backL_same L t) hu (by rw [backL_length]; omega)
/-- The facts of one that is sorted. -/
theorem sort_facts (L : List Ev) (i : Nat) (e : Ev) (h : (sortS L)[i]? = some e) :
    ∃ j : Nat, j < 6 ∧ e.o = (j : Int) + 1 ∧ 1 ≤ e.s ∧ e.s < 1099511627776 ∧ (runS L i).1.get j = e.s - 1 ∧ (∀ k, k < 6 → e.d.get k ≤ (runS L i).1.get k) ∧ e ∈ L ∧ (runS L (i + 1)).1 = incV (runS L i).1 j := by
  obtain ⟨h1, h2, h3⟩ := sortS_step L i e h
  obtain ⟨j, hj, ho, a, b, hv, hl, _⟩ := ready_facts h1
  have e1 : (e.o - 1).toNat = j := by omega
  rw [e1] at h3
  exact ⟨j, hj, ho, a, b, hv, vlessB_iff.1 hl, h2, h3⟩
end Go.Proofs.Ytbddjnnanbjgfaa
