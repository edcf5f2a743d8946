/-
  How events are sorted: plain.
-/
import Derived.Test.YtgbbhkdaalnchaaOr
namespace Go.Proofs.Ytgbbhkdaalnchaa
set_option linter.unusedVariables false
set_option linter.unusedSimpArgs false
open Go.RowKit

/-- One more of a region is known. -/
def incV (v : Vec) (k : Nat) : Vec := v.set k ((v.get k + 1) % 18446744073709551616)
theorem incV_ok {v : Vec} (h : v.ok) (k : Nat) (hk : k < 6) : (incV v k).ok := fun j hj => by
  unfold incV
  rw [Vec.get_set v k j _ hk hj]
  split
  · omega
  · exact h j hj
/-- Of the first k: where the ready one of the least origin stands, the first of several. -/
def bestI (v : Vec) (L : List Ev) : Nat → Option Nat
  | 0 => none
  | k + 1 => match L[k]? with
    | none => bestI v L k
    | some e => match bestI v L k with
      | none => if readyB v e = true then some k else none
      | some i => if readyB v e = true ∧ e.o < (L.getD i Ev.zero).o then some k else some i
/-- What is said of it. -/
def Best (v : Vec) (L : List Ev) (k i : Nat) : Prop := i < k ∧ ∃ e, L[i]? = some e ∧ readyB v e = true ∧ ∀ j e', j < k → L[j]? = some e' → readyB v e' = true → e.o < e'.o ∨ (e.o = e'.o ∧ i ≤ j)
def NoneB (v : Vec) (L : List Ev) (k : Nat) : Prop := ∀ j e', j < k → L[j]? = some e' → readyB v e' = false
theorem bestI_spec (v : Vec) (L : List Ev) (k : Nat) : (bestI v L k = none ∧ NoneB v L k) ∨ ∃ i, bestI v L k = some i ∧ Best v L k i := by
  induction k with
  | zero => exact .inl ⟨rfl, fun j e h => absurd h (by omega)⟩
  | succ k ih =>
    unfold bestI
    cases hk : L[k]? with
    | none =>
      simp only
      rcases ih with ⟨h1, h2⟩ | ⟨i, h1, h2, e, h3, h4, h5⟩
      · refine .inl ⟨h1, fun j e hj he => ?_⟩
        by_cases ej : j = k
        · subst ej; rw [hk] at he; cases he
        · exact h2 j e (by omega) he
      · refine .inr ⟨i, h1, by omega, e, h3, h4, fun j e' hj he hr => ?_⟩
        by_cases ej : j = k
        · subst ej; rw [hk] at he; cases he
        · exact h5 j e' (by omega) he hr
    | some x =>
      simp only
      rcases ih with ⟨h1, h2⟩ | ⟨i, h1, h2, e, h3, h4, h5⟩
      · rw [h1]
        simp only
        by_cases hx : readyB v x = true
        · rw [if_pos hx]
          refine .inr ⟨k, rfl, by omega, x, hk, hx, fun j e' hj he hr => ?_⟩
          by_cases ej : j = k
          · subst ej; rw [hk] at he; cases he; exact .inr ⟨rfl, Nat.le_refl _⟩
          · rw [h2 j e' (by omega) he] at hr; cases hr
        · rw [if_neg hx]
          refine .inl ⟨rfl, fun j e' hj he => ?_⟩
          by_cases ej : j = k
          · subst ej; rw [hk] at he; cases he; simpa using hx
          · exact h2 j e' (by omega) he
      · rw [h1]
        simp only
        have hg : L.getD i Ev.zero = e := by rw [List.getD_eq_getElem?_getD, h3]; rfl
        rw [hg]
        by_cases hx : readyB v x = true ∧ x.o < e.o
        · rw [if_pos hx]
          refine .inr ⟨k, rfl, by omega, x, hk, hx.1, fun j e' hj he hr => ?_⟩
          by_cases ej : j = k
          · subst ej; rw [hk] at he; cases he; exact .inr ⟨rfl, Nat.le_refl _⟩
          · rcases h5 j e' (by omega) he hr with h | h <;> exact .inl (by omega)
        · rw [if_neg hx]
          refine .inr ⟨i, rfl, by omega, e, h3, h4, fun j e' hj he hr => ?_⟩
          by_cases ej : j = k
          · subst ej; rw [hk] at he; cases he
            by_cases ho : x.o < e.o
            · exact absurd ⟨hr, ho⟩ hx
            · by_cases ho2 : e.o < x.o
              · exact .inl ho2
              · exact .inr ⟨by omega, by omega⟩
          · exact h5 j e' (by omega) he hr
theorem best_unique {v : Vec} {L : List Ev} {k i j : Nat} (h : Best v L k i) (h' : Best v L k j) : i = j := by
  obtain ⟨h1, e, h2, h3, h4⟩ := h
  obtain ⟨g1, x, g2, g3, g4⟩ := h'
  rcases h4 j x g1 g2 g3 with a | a <;> rcases g4 i e h1 h2 h3 with b | b <;> omega
theorem best_not_none {v : Vec} {L : List Ev} {k i : Nat} (h : Best v L k i) (h' : NoneB v L k) : False := by
  obtain ⟨h1, e, h2, h3, _⟩ := h
  rw [h' i e h1 h2] at h3; cases h3
theorem bestI_of_best {v : Vec} {L : List Ev} {k i : Nat} (h : Best v L k i) : bestI v L k = some i := by
  rcases bestI_spec v L k with ⟨_, h2⟩ | ⟨j, h1, h2⟩
  · exact (best_not_none h h2).elim
  · rw [h1, best_unique h2 h]
theorem bestI_of_none {v : Vec} {L : List Ev} {k : Nat} (h : NoneB v L k) : bestI v L k = none := by
  rcases bestI_spec v L k with ⟨h1, _⟩ | ⟨j, _, h2⟩
  · exact h1
  · exact (best_not_none h2 h).elim
/-- n times: the next one is taken. -/
def runS (L : List Ev) : Nat → Vec × List Ev
  | 0 => (Vec.zero, [])
  | n + 1 => match bestI (runS L n).1 L L.length with
    | none => runS L n
    | some i => (incV (runS L n).1 ((L.getD i Ev.zero).o - 1).toNat, (runS L n).2 ++ [L.getD i Ev.zero])
/-- All of it. -/
def sortS (L : List Ev) : List Ev := (runS L L.length).2
/-- How many are not known. -/
def cntS (v : Vec) (L : List Ev) : Nat := (L.filter fun e => decide (v.get (e.o - 1).toNat < e.s)).length
theorem filter_le {α : Type} (p q : α → Bool) (h : ∀ x, p x = true → q x = true) : ∀ L : List α, (L.filter p).length ≤ (L.filter q).length
  | [] => Nat.le_refl _
  | x :: L => by
    have ih := filter_le p q h L
    simp only [List.filter_cons]
    cases hp : p x with
    | true => rw [h x hp]; simpa using ih
    | false => cases hq : q x <;> simp <;> omega
theorem filter_lt {α : Type} (p q : α → Bool) (h : ∀ x, p x = true → q x = true) (y : α) (hp : p y = false) (hq : q y = true) : ∀ L : List α, y ∈ L → (L.filter p).length < (L.filter q).length
  | [], hy => by cases hy
  | x :: L, hy => by
    simp only [List.filter_cons]
    rcases List.mem_cons.1 hy with e | hy
    · subst e
      rw [hp, hq]
      have := filter_le p q h L
      simp; omega
    · have ih := filter_lt p q h y hp hq L hy
      cases hpx : p x with
      | true => rw [h x hpx]; simpa using ih
      | false => cases hqx : q x <;> simp <;> omega
theorem ready_facts {v : Vec} {e : Ev} (h : readyB v e = true) : ∃ k : Nat, k < 6 ∧ e.o = (k : Int) + 1 ∧ 1 ≤ e.s ∧ e.s < 1099511627776 ∧ v.get k = e.s - 1 ∧ vlessB e.d v = true ∧ emayB e = true := by
  unfold readyB at h
  simp only [Bool.and_eq_true, decide_eq_true_eq] at h
  obtain ⟨h1, h2, h3⟩ := h
  obtain ⟨k, hk, ho, a, b, _, _⟩ := place_yes e (emay_place h1)
  have e1 : (e.o - 1).toNat = k := by omega
  rw [e1] at h2
  exact ⟨k, hk, ho, a, b, h2, h3, h1⟩
theorem cnt_step {v : Vec} {L : List Ev} {e : Ev} (h : readyB v e = true) (hm : e ∈ L) : cntS (incV v (e.o - 1).toNat) L < cntS v L := by
  obtain ⟨k, hk, ho, a, b, hv, _⟩ := ready_facts h
  have e1 : (e.o - 1).toNat = k := by omega
  rw [e1]
  have hw : (v.get k + 1) % 18446744073709551616 = e.s := by omega
  refine filter_lt _ _ (fun x hx => ?_) e ?_ ?_ L hm
  · simp only [decide_eq_true_eq] at hx ⊢
    unfold incV at hx
    by_cases hj : (x.o - 1).toNat < 6
    · rw [Vec.get_set v k _ _ hk hj] at hx
      split at hx
      · rename_i ej; rw [ej]; omega
      · exact hx
    · have z : ∀ (u : Vec) (j : Nat), ¬ j < 6 → u.get j = 0 := fun u j hj => by
        unfold Vec.get
        match j, hj with
        | 0, h | 1, h | 2, h | 3, h | 4, h | 5, h => exact absurd h (by omega)
        | n + 6, _ => rfl
      rw [z _ _ hj] at hx ⊢; exact hx
  · rw [e1]; unfold incV; rw [Vec.get_set_same v k _ hk, hw]; simp
  · rw [e1]; simp; omega
theorem runS_facts (L : List Ev) (n : Nat) : (runS L n).1.ok ∧ (((runS L n).2.length = n ∧ n + cntS (runS L n).1 L ≤ L.length) ∨ bestI (runS L n).1 L L.length = none) ∧ (runS L n).2.length ≤ L.length ∧ (runS L n).2.length + cntS (runS L n).1 L ≤ L.length := by
  induction n with
  | zero =>
    have h : cntS Vec.zero L ≤ L.length := List.length_filter_le _ _
    exact ⟨Vec.ok_zero, .inl ⟨rfl, by show 0 + cntS Vec.zero L ≤ _; omega⟩, Nat.zero_le _, by show 0 + cntS Vec.zero L ≤ _; omega⟩
  | succ n ih =>
    obtain ⟨h1, h2, h3, h4⟩ := ih
    rcases bestI_spec (runS L n).1 L L.length with ⟨g1, g2⟩ | ⟨i, g1, hi, e, g2, g3, g4⟩
    · have e : runS L (n + 1) = runS L n := by rw [runS, g1]
      rw [e]
      exact ⟨h1, .inr g1, h3, h4⟩
    · have hg : L.getD i Ev.zero = e := by rw [List.getD_eq_getElem?_getD, g2]; rfl
      have er : runS L (n + 1) = (incV (runS L n).1 (e.o - 1).toNat, (runS L n).2 ++ [e]) := by rw [runS, g1]; simp only [hg]
      have hc := cnt_step g3 (List.mem_of_getElem? g2)
      obtain ⟨k, hk, ho, _⟩ := ready_facts g3
      have e1 : (e.o - 1).toNat = k := by omega
      rcases h2 with ⟨a, b⟩ | h2
      · rw [e1] at hc
        rw [er, e1]
        have hlen : ((runS L n).2 ++ [e]).length = (runS L n).2.length + 1 := by simp
        refine ⟨incV_ok h1 k hk, .inl ⟨by rw [hlen, a], ?_⟩, ?_, ?_⟩
        · show n + 1 + cntS (incV (runS L n).1 k) L ≤ _; omega
        · show ((runS L n).2 ++ [e]).length ≤ _; rw [hlen]; omega
        · show ((runS L n).2 ++ [e]).length + cntS (incV (runS L n).1 k) L ≤ _; rw [hlen]; omega
      · rw [g1] at h2; cases h2
theorem runS_stop (L : List Ev) (n : Nat) (h : bestI (runS L n).1 L L.length = none) : ∀ m, n ≤ m → runS L m = runS L n
  | 0, hm => by
    obtain rfl : n = 0 := by omega
    rfl
  | m + 1, hm => by
    by_cases e : n = m + 1
    · subst e; rfl
    · have ih := runS_stop L n h m (by omega)
      rw [runS, ih, h]
theorem sortS_of (L : List Ev) (n : Nat) (h : bestI (runS L n).1 L L.length = none) (hn : (runS L n).2.length = n) : runS L L.length = runS L n :=
  runS_stop L n h _ (by have := (runS_facts L n).2.2.1; omega)
end Go.Proofs.Ytgbbhkdaalnchaa
