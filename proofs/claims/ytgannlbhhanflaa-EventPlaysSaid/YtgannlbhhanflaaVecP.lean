/-
  Plain facts on the greatest of many vectors: the order, and how often they come, says nothing.
-/
import Derived.Test.YtgannlbhhanflaaVecM
namespace Go.Proofs.Ytgannlbhhanflaa
set_option linter.unusedVariables false
set_option linter.unusedSimpArgs false
open Go.RowKit
namespace Vec
theorem foldl_map2_get (c : Int → Int → Int) (k : Nat) (hk : k < 6) : ∀ (r : List Vec) (a : Vec), (r.foldl (map2 c) a).get k = (r.map (·.get k)).foldl c (a.get k)
  | [], _ => rfl
  | v :: r, a => by
    rw [List.foldl_cons, foldl_map2_get c k hk r (map2 c a v), get_map2 c a v k hk]; rfl
theorem foldl_max_spec (r : List Int) (a : Int) : (a ≤ r.foldl max a ∧ ∀ x ∈ r, x ≤ r.foldl max a) ∧ (r.foldl max a = a ∨ r.foldl max a ∈ r) := by
  induction r generalizing a with
  | nil => exact ⟨⟨Int.le_refl _, fun _ h => by cases h⟩, .inl rfl⟩
  | cons x r ih =>
    obtain ⟨⟨h1, h2⟩, h3⟩ := ih (max a x)
    rw [List.foldl_cons]
    refine ⟨⟨by omega, fun y hy => ?_⟩, ?_⟩
    · rcases List.mem_cons.1 hy with rfl | hy
      · omega
      · exact h2 y hy
    · rcases h3 with h3 | h3
      · rw [h3]
        rcases Int.le_total a x with h | h
        · rw [Int.max_eq_right h]; exact .inr List.mem_cons_self
        · rw [Int.max_eq_left h]; exact .inl rfl
      · exact .inr (List.mem_cons_of_mem _ h3)
theorem foldl_min_spec (r : List Int) (a : Int) : (r.foldl min a ≤ a ∧ ∀ x ∈ r, r.foldl min a ≤ x) ∧ (r.foldl min a = a ∨ r.foldl min a ∈ r) := by
  induction r generalizing a with
  | nil => exact ⟨⟨Int.le_refl _, fun _ h => by cases h⟩, .inl rfl⟩
  | cons x r ih =>
    obtain ⟨⟨h1, h2⟩, h3⟩ := ih (min a x)
    rw [List.foldl_cons]
    refine ⟨⟨by omega, fun y hy => ?_⟩, ?_⟩
    · rcases List.mem_cons.1 hy with rfl | hy
      · omega
      · exact h2 y hy
    · rcases h3 with h3 | h3
      · rw [h3]
        rcases Int.le_total a x with h | h
        · rw [Int.min_eq_left h]; exact .inl rfl
        · rw [Int.min_eq_right h]; exact .inr List.mem_cons_self
      · exact .inr (List.mem_cons_of_mem _ h3)
/-- What the greatest of several is. -/
theorem join_spec (L : List Vec) (hL : L ≠ []) (k : Nat) (hk : k < 6) : (∀ v ∈ L, v.get k ≤ (foldV max L).get k) ∧ ∃ v ∈ L, (foldV max L).get k = v.get k := by
  obtain ⟨a, r, rfl⟩ := List.exists_cons_of_ne_nil hL
  simp only [foldV]
  rw [foldl_map2_get max k hk r a]
  obtain ⟨⟨h1, h2⟩, h3⟩ := foldl_max_spec (r.map (·.get k)) (a.get k)
  refine ⟨fun v hv => ?_, ?_⟩
  · rcases List.mem_cons.1 hv with rfl | hv
    · exact h1
    · exact h2 _ (List.mem_map.2 ⟨v, hv, rfl⟩)
  · rcases h3 with h3 | h3
    · exact ⟨a, List.mem_cons_self, h3⟩
    · obtain ⟨v, hv, e⟩ := List.mem_map.1 h3
      exact ⟨v, List.mem_cons_of_mem _ hv, e.symm⟩
theorem meet_spec (L : List Vec) (hL : L ≠ []) (k : Nat) (hk : k < 6) : (∀ v ∈ L, (foldV min L).get k ≤ v.get k) ∧ ∃ v ∈ L, (foldV min L).get k = v.get k := by
  obtain ⟨a, r, rfl⟩ := List.exists_cons_of_ne_nil hL
  simp only [foldV]
  rw [foldl_map2_get min k hk r a]
  obtain ⟨⟨h1, h2⟩, h3⟩ := foldl_min_spec (r.map (·.get k)) (a.get k)
  refine ⟨fun v hv => ?_, ?_⟩
  · rcases List.mem_cons.1 hv with rfl | hv
    · exact h1
    · exact h2 _ (List.mem_map.2 ⟨v, hv, rfl⟩)
  · rcases h3 with h3 | h3
    · exact ⟨a, List.mem_cons_self, h3⟩
    · obtain ⟨v, hv, e⟩ := List.mem_map.1 h3
      exact ⟨v, List.mem_cons_of_mem _ hv, e.symm⟩
theorem join_same (L M : List Vec) (h : ∀ v, v ∈ L ↔ v ∈ M) : foldV max L = foldV max M := by
  by_cases hL : L = []
  · subst hL
    have hM : M = [] := by
      rcases M with _ | ⟨x, M⟩
      · rfl
      · exact absurd ((h x).2 List.mem_cons_self) (by simp)
    rw [hM]
  · have hM : M ≠ [] := by
      rintro rfl
      rcases L with _ | ⟨x, L⟩
      · exact hL rfl
      · exact absurd ((h x).1 List.mem_cons_self) (by simp)
    refine ext_get fun k hk => ?_
    obtain ⟨a1, v, hv, a2⟩ := join_spec L hL k hk
    obtain ⟨b1, u, hu, b2⟩ := join_spec M hM k hk
    have := a1 u ((h u).2 hu)
    have := b1 v ((h v).1 hv)
    omega
theorem ok_join {L : List Vec} (h : ∀ v ∈ L, v.ok) : (foldV max L).ok := fun k hk => by
  by_cases hL : L = []
  · subst hL; exact ok_zero k hk
  · obtain ⟨_, v, hv, e⟩ := join_spec L hL k hk
    rw [e]; exact h v hv k hk
theorem ok_meet {L : List Vec} (h : ∀ v ∈ L, v.ok) : (foldV min L).ok := fun k hk => by
  by_cases hL : L = []
  · subst hL; exact ok_zero k hk
  · obtain ⟨_, v, hv, e⟩ := meet_spec L hL k hk
    rw [e]; exact h v hv k hk
end Vec
theorem less_join {L : List Vec} {v : Vec} (hv : v ∈ L) : vlessB v (Vec.foldV max L) = true :=
  vlessB_iff.2 fun k hk => (Vec.join_spec L (List.ne_nil_of_mem hv) k hk).1 v hv
theorem less_meet {L : List Vec} {v : Vec} (hv : v ∈ L) : vlessB (Vec.foldV min L) v = true :=
  vlessB_iff.2 fun k hk => (Vec.meet_spec L (List.ne_nil_of_mem hv) k hk).1 v hv
theorem has_join {a b : Vec} (h : vlessB a b = true) (o s : Int) (hh : vhasB a o s = true) : vhasB b o s = true := by
  unfold vhasB at hh ⊢
  simp only [Bool.and_eq_true, decide_eq_true_eq] at hh ⊢
  obtain ⟨h1, h2, h3⟩ := hh
  obtain ⟨k, hk, rfl⟩ := regB_out h1
  have e1 : ((k : Int) + 1 - 1).toNat = k := by omega
  rw [e1] at h3 ⊢
  have := vlessB_iff.1 h k hk
  exact ⟨h1, h2, by omega⟩
theorem all_less (L : List Vec) (v : Vec) (hv : v.ok) : L.all (vlessB · v) = vlessB (Vec.foldV max L) v := by
  rw [Bool.eq_iff_iff, List.all_eq_true, vlessB_iff]
  by_cases hL : L = []
  · subst hL
    exact ⟨fun _ k hk => by show Vec.zero.get k ≤ _; rw [Vec.get_zero]; exact (hv k hk).1, fun _ x hx => by cases hx⟩
  · constructor
    · intro h k hk
      obtain ⟨_, u, hu, e⟩ := Vec.join_spec L hL k hk
      rw [e]; exact vlessB_iff.1 (h u hu) k hk
    · intro h x hx
      exact vlessB_iff.2 fun k hk => Int.le_trans ((Vec.join_spec L hL k hk).1 x hx) (h k hk)
theorem meet_le_join (L : List Vec) : Vec.map2 max (Vec.foldV max L) (Vec.foldV min L) = Vec.foldV max L := Vec.ext_get fun k hk => by
  rw [Vec.get_max _ _ k hk]
  by_cases hL : L = []
  · subst hL; simp [Vec.foldV]
  · obtain ⟨a1, v, hv, a2⟩ := Vec.join_spec L hL k hk
    obtain ⟨b1, u, hu, b2⟩ := Vec.meet_spec L hL k hk
    have := b1 v hv
    have := a1 v hv
    omega
theorem join_self (a : Vec) : Vec.map2 max a a = a := Vec.ext_get fun k hk => by rw [Vec.get_max _ _ k hk]; omega
theorem less_join2 (a v : Vec) : vlessB a (Vec.map2 max a v) = true := vlessB_iff.2 fun k hk => by rw [Vec.get_max _ _ k hk]; omega
theorem lackSum_zero (a b : Vec) (h : ∀ k, k < 6 → b.get k ≤ a.get k) : ∀ k, k ≤ 6 → lackSum a b k = 0
  | 0, _ => rfl
  | k + 1, hk => by
    rw [lackSum, lackSum_zero a b h k (by omega), lackOf, if_neg (by have := h k (by omega); omega)]; rfl
theorem lack_join (a v : Vec) : vlack (Vec.map2 max a v) v = 0 := lackSum_zero _ _ (fun k hk => by rw [Vec.get_max _ _ k hk]; omega) 6 (Nat.le_refl _)
/-- The other list: of the numbers by, of l; then all of l from behind. -/
def otherL (L : List Vec) (by_ : List Int) : List Vec := (if L = [] then [] else by_.map fun x => L.getD (x % (L.length : Int)).toNat Vec.zero) ++ L.reverse
theorem other_mem (L : List Vec) (by_ : List Int) (v : Vec) : v ∈ otherL L by_ ↔ v ∈ L := by
  unfold otherL
  rw [List.mem_append, List.mem_reverse]
  constructor
  · rintro (h | h)
    · split at h
      · cases h
      · rename_i hL
        obtain ⟨x, _, rfl⟩ := List.mem_map.1 h
        have hlen : 0 < L.length := List.length_pos_iff.2 hL
        have h1 : (x % (L.length : Int)).toNat < L.length := by
          have := Int.emod_nonneg x (show (L.length : Int) ≠ 0 by omega)
          have := Int.emod_lt_of_pos x (show (0 : Int) < (L.length : Int) by omega)
          omega
        rw [List.getD_eq_getElem?_getD, List.getElem?_eq_getElem h1]
        exact List.getElem_mem h1
    · exact h
  · exact .inr
end Go.Proofs.Ytgannlbhhanflaa
