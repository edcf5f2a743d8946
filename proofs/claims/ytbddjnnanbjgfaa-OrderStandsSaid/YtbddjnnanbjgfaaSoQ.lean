/-
  What is sorted stands behind what it depends on; the order in which events came says nothing: plain.
-/
import Derived.Test.YtbddjnnanbjgfaaSoP
namespace Go.Proofs.Ytbddjnnanbjgfaa
set_option linter.unusedVariables false
set_option linter.unusedSimpArgs false
open Go.RowKit

theorem getD_of {L : List Ev} {i : Nat} {e : Ev} (h : L[i]? = some e) : L.getD i Ev.zero = e := by rw [List.getD_eq_getElem?_getD, h]; rfl
theorem runS_some {L : List Ev} {n i : Nat} {e : Ev} (h : bestI (runS L n).1 L L.length = some i) (he : L[i]? = some e) : runS L (n + 1) = (incV (runS L n).1 (e.o - 1).toNat, (runS L n).2 ++ [e]) := by
  rw [runS, h]; simp only [getD_of he]
theorem runS_none {L : List Ev} {n : Nat} (h : bestI (runS L n).1 L L.length = none) : runS L (n + 1) = runS L n := by rw [runS, h]
theorem runS_at (L : List Ev) (n : Nat) : ∃ m, m ≤ n ∧ runS L n = runS L m ∧ (runS L m).2.length = m ∧ (m = n ∨ bestI (runS L m).1 L L.length = none) := by
  induction n with
  | zero => exact ⟨0, Nat.le_refl _, rfl, rfl, .inl rfl⟩
  | succ n ih =>
    obtain ⟨m, h1, h2, h3, h4⟩ := ih
    rcases bestI_spec (runS L n).1 L L.length with ⟨g1, _⟩ | ⟨i, g1, _, e, g2, _⟩
    · exact ⟨m, by omega, by rw [runS_none g1, h2], h3, .inr (by rw [← h2]; exact g1)⟩
    · rcases h4 with rfl | h4
      · refine ⟨m + 1, Nat.le_refl _, rfl, ?_, .inl rfl⟩
        rw [runS_some g1 g2]
        simp [h3]
      · rw [← h2, g1] at h4; cases h4
theorem sortS_stop (L : List Ev) : bestI (runS L L.length).1 L L.length = none := by
  obtain ⟨h1, h2, h3, h4⟩ := runS_facts L L.length
  rcases h2 with ⟨a, b⟩ | h2
  · refine bestI_of_none fun j e hj he => ?_
    cases hr : readyB (runS L L.length).1 e with
    | false => rfl
    | true =>
      have := cnt_step hr (List.mem_of_getElem? he)
      omega
  · exact h2
theorem runS_len (L : List Ev) : runS L (sortS L).length = runS L L.length ∧ (sortS L).length ≤ L.length := by
  obtain ⟨m, h1, h2, h3, _⟩ := runS_at L L.length
  have : (sortS L).length = m := by unfold sortS; rw [h2, h3]
  rw [this]
  exact ⟨h2.symm, h1⟩
theorem runS_pre (L : List Ev) (n : Nat) : ∀ i, i ≤ (runS L n).2.length → (runS L i).2 = (runS L n).2.take i ∧ (runS L i).2.length = i := by
  induction n with
  | zero =>
    intro i hi
    obtain rfl : i = 0 := by simpa [runS] using hi
    exact ⟨rfl, rfl⟩
  | succ n ih =>
    intro i hi
    rcases bestI_spec (runS L n).1 L L.length with ⟨g1, _⟩ | ⟨j, g1, _, e, g2, _⟩
    · rw [runS_none g1] at hi ⊢
      exact ih i hi
    · have hl : (runS L n).2.length = n := by
        rcases (runS_facts L n).2.1 with ⟨a, _⟩ | a
        · exact a
        · rw [g1] at a; cases a
      have hr := runS_some g1 g2
      have hl2 : (runS L (n + 1)).2.length = n + 1 := by rw [hr]; simp [hl]
      by_cases hin : i = n + 1
      · subst hin
        exact ⟨(List.take_of_length_le (by rw [hl2]; exact Nat.le_refl _)).symm, hl2⟩
      · have h0 := ih i (by omega)
        refine ⟨?_, h0.2⟩
        rw [h0.1, hr]
        simp only
        rw [List.take_append_of_le_length (by omega)]
/-- The i-th that is sorted was ready, with what came ahead of it. -/
theorem sortS_step (L : List Ev) (i : Nat) (e : Ev) (h : (sortS L)[i]? = some e) : readyB (runS L i).1 e = true ∧ e ∈ L ∧ (runS L (i + 1)).1 = incV (runS L i).1 (e.o - 1).toNat := by
  have hi : i < (sortS L).length := (List.getElem?_eq_some_iff.1 h).1
  have p1 := runS_pre L L.length i (by show i ≤ (sortS L).length; omega)
  have p2 := runS_pre L L.length (i + 1) (by show i + 1 ≤ (sortS L).length; omega)
  rcases bestI_spec (runS L i).1 L L.length with ⟨g1, _⟩ | ⟨j, g1, _, x, g2, g3, _⟩
  · have := p2.2
    rw [runS_none g1, p1.2] at this
    omega
  · have hr := runS_some g1 g2
    have e1 := p2.1
    rw [hr] at e1
    simp only at e1
    rw [p1.1] at e1
    have e2 : (List.take (i + 1) (runS L L.length).2)[i]? = some e := by rw [List.getElem?_take]; simp; exact h
    rw [← e1, List.getElem?_append_right (by rw [← p1.1, p1.2]; exact Nat.le_refl _), ← p1.1, p1.2] at e2
    simp at e2
    subst e2
    exact ⟨g3, List.mem_of_getElem? g2, by rw [hr]⟩
theorem sortS_end (L : List Ev) : ∀ e ∈ L, readyB (runS L (sortS L).length).1 e = false := by
  intro e he
  rw [(runS_len L).1]
  rcases bestI_spec (runS L L.length).1 L L.length with ⟨_, g2⟩ | ⟨j, g1, _⟩
  · obtain ⟨i, hi⟩ := List.getElem?_of_mem he
    exact g2 i e (List.getElem?_eq_some_iff.1 hi).1 hi
  · rw [sortS_stop] at g1; cases g1
/-- No two are unlike of one region and number. -/
def Like (L : List Ev) : Prop := ∀ x ∈ L, ∀ y ∈ L, x.o = y.o → x.s = y.s → x = y
theorem runS_same (L M : List Ev) (hs : ∀ e, e ∈ L ↔ e ∈ M) (hu : Like L) : ∀ n, runS L n = runS M n := by
  intro n
  induction n with
  | zero => rfl
  | succ n ih =>
    rcases bestI_spec (runS L n).1 L L.length with ⟨g1, g2⟩ | ⟨i, g1, gi, e, g2, g3, g4⟩
    · have h2 : bestI (runS M n).1 M M.length = none := by
        refine bestI_of_none fun j x hj hx => ?_
        rw [← ih]
        obtain ⟨k, hk⟩ := List.getElem?_of_mem ((hs x).2 (List.mem_of_getElem? hx))
        exact g2 k x (List.getElem?_eq_some_iff.1 hk).1 hk
      rw [runS_none g1, runS_none h2, ih]
    · rcases bestI_spec (runS M n).1 M M.length with ⟨f1, f2⟩ | ⟨j, f1, fj, x, f2, f3, f4⟩
      · obtain ⟨k, hk⟩ := List.getElem?_of_mem ((hs e).1 (List.mem_of_getElem? g2))
        have := f2 k e (List.getElem?_eq_some_iff.1 hk).1 hk
        rw [← ih, g3] at this; cases this
      · have hxL := (hs x).2 (List.mem_of_getElem? f2)
        have heM := (hs e).1 (List.mem_of_getElem? g2)
        obtain ⟨k1, hk1⟩ := List.getElem?_of_mem hxL
        obtain ⟨k2, hk2⟩ := List.getElem?_of_mem heM
        have a := g4 k1 x (List.getElem?_eq_some_iff.1 hk1).1 hk1 (by rw [ih]; exact f3)
        have b := f4 k2 e (List.getElem?_eq_some_iff.1 hk2).1 hk2 (by rw [← ih]; exact g3)
        have ho : e.o = x.o := by omega
        obtain ⟨p, hp, po, _, _, pv, _⟩ := ready_facts g3
        obtain ⟨q, hq, qo, _, _, qv, _⟩ := ready_facts f3
        obtain rfl : p = q := by omega
        rw [← ih] at qv
        have hse : e.s = x.s := by omega
        obtain rfl : e = x := hu e (List.mem_of_getElem? g2) x hxL ho hse
        rw [runS_some g1 g2, runS_some f1 f2, ih]
theorem sortS_same (L M : List Ev) (hs : ∀ e, e ∈ L ↔ e ∈ M) (hu : Like L) (hl : L.length ≤ M.length) : sortS M = sortS L := by
  unfold sortS
  rw [← runS_same L M hs hu M.length, runS_stop L L.length (sortS_stop L) M.length hl]
end Go.Proofs.Ytbddjnnanbjgfaa
