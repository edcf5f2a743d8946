/-
  Events one behind the other: plain.
-/
import Derived.Test.YtgannlbhhanflaaEkP
namespace Go.Proofs.Ytgannlbhhanflaa
set_option linter.unusedVariables false
set_option linter.unusedSimpArgs false
open Go.RowKit

/-- The first k events that stand one behind the other. -/
def evsAt (l : List Int) (k : Nat) : List Ev := (List.range k).map fun i => readAt l (91 * i)
theorem evsAt_succ (l : List Int) (k : Nat) : evsAt l (k + 1) = evsAt l k ++ [readAt l (91 * k)] := by unfold evsAt; rw [List.range_succ, List.map_append]; rfl
theorem evsAt_length (l : List Int) (k : Nat) : (evsAt l k).length = k := by unfold evsAt; simp
def goodB (l : List Int) : Bool := decide (l.length % 91 = 0) && (List.range (l.length / 91)).all fun i => emayB (readAt l (91 * i))
/-- What all bytes are. -/
def allE (l : List Int) : List Ev × Int := if goodB l = true then (evsAt l (l.length / 91), 0) else ([], 5)
theorem allE_no {l : List Int} (h : goodB l = false) : allE l = ([], 5) := if_neg (by simp [h])
theorem allE_yes {l : List Int} (h : goodB l = true) : allE l = (evsAt l (l.length / 91), 0) := if_pos h
theorem goodB_short {l : List Int} {k : Nat} (h : 91 * k < l.length) (h2 : l.length < 91 * k + 91) : goodB l = false := by
  unfold goodB; rw [decide_eq_false (by omega)]; rfl
theorem goodB_no {l : List Int} {k : Nat} (h : 91 * k + 91 ≤ l.length) (hm : emayB (readAt l (91 * k)) = false) : goodB l = false := by
  have : ((List.range (l.length / 91)).all fun i => emayB (readAt l (91 * i))) = false := by
    rw [List.all_eq_false]
    exact ⟨k, List.mem_range.2 (by omega), by simp [hm]⟩
  unfold goodB; rw [this, Bool.and_false]
theorem goodB_yes {l : List Int} {k : Nat} (h : 91 * k = l.length) (hm : ∀ i, i < k → emayB (readAt l (91 * i)) = true) : goodB l = true := by
  unfold goodB
  rw [decide_eq_true (by omega), Bool.true_and, List.all_eq_true]
  intro i hi
  exact hm i (by have := List.mem_range.1 hi; omega)
theorem goodB_out {l : List Int} (h : goodB l = true) : l.length % 91 = 0 ∧ ∀ i, i < l.length / 91 → emayB (readAt l (91 * i)) = true := by
  unfold goodB at h
  simp only [Bool.and_eq_true, decide_eq_true_eq, List.all_eq_true] at h
  exact ⟨h.1, fun i hi => h.2 i (List.mem_range.2 hi)⟩
/-- All that is put, one behind the other. -/
def putsE (L : List Ev) : List Int := L.flatMap putE
theorem putsE_snoc (L : List Ev) (e : Ev) : putsE (L ++ [e]) = putsE L ++ putE e := by simp [putsE]
theorem putsE_range (L : List Ev) : ∀ c ∈ putsE L, 0 ≤ c ∧ c ≤ 255 := by
  intro c hc
  obtain ⟨e, _, he⟩ := List.mem_flatMap.1 hc
  exact putE_range e c he
theorem putsE_length {L : List Ev} (h : ∀ e ∈ L, emayB e = true) : (putsE L).length = 91 * L.length := by
  induction L with
  | nil => rfl
  | cons e L ih =>
    have ih := ih fun x hx => h x (List.mem_cons_of_mem _ hx)
    simp only [putsE, List.flatMap_cons, List.length_append, List.length_cons] at ih ⊢
    rw [ih, putE_yes (h e List.mem_cons_self), evL_length]; omega
/-- The i-th event of what was put, whatever stands behind. -/
theorem readAt_puts {L : List Ev} (h : ∀ e ∈ L, emayB e = true) (ok : ∀ e ∈ L, e.ok) (q : List Int) (i : Nat) (e : Ev) (hi : L[i]? = some e) : readAt (putsE L ++ q) (91 * i) = e := by
  obtain ⟨p, r, rfl, rfl⟩ : ∃ p r, L = p ++ e :: r ∧ p.length = i := by
    have hlt := (List.getElem?_eq_some_iff.1 hi).1
    refine ⟨L.take i, L.drop (i + 1), ?_, by rw [List.length_take]; omega⟩
    rw [List.getElem?_eq_getElem hlt] at hi
    rw [← Option.some.inj hi, ← List.drop_eq_getElem_cons hlt, List.take_append_drop]
  have hp := putsE_length (L := p) fun x hx => h x (by simp [hx])
  have he : emayB e = true := h e (by simp)
  have : putsE (p ++ e :: r) ++ q = putsE p ++ (evL e ++ (putsE r ++ q)) := by
    simp only [putsE, List.flatMap_append, List.flatMap_cons, List.append_assoc, putE_yes he]
  rw [this, ← hp]
  exact readAt_evL (ok e (by simp)) (may_of he) _ _
theorem evsAt_puts {L : List Ev} (h : ∀ e ∈ L, emayB e = true) (ok : ∀ e ∈ L, e.ok) (q : List Int) (k : Nat) (hk : k ≤ L.length) : evsAt (putsE L ++ q) k = L.take k := by
  induction k with
  | zero => rfl
  | succ k ih =>
    obtain ⟨e, he⟩ : ∃ e, L[k]? = some e := ⟨L[k], List.getElem?_eq_getElem (by omega)⟩
    rw [evsAt_succ, ih (by omega), readAt_puts h ok q k e he, List.take_add_one, he]; rfl
theorem readAt_take (l : List Int) (m n : Nat) (h : m + 91 ≤ n) : readAt (l.take n) m = readAt l m := by
  have hd : ∀ k j, k + j ≤ n → ((l.take n).drop k).take j = (l.drop k).take j := fun k j hk => by
    rw [List.drop_take, List.take_take, Nat.min_eq_left (by omega)]
  unfold readAt
  rw [hd m 1 (by omega), hd (m + 1) 8 (by omega), hd (m + 9) 48 (by omega), hd (m + 57) 1 (by omega), hd (m + 58) 8 (by omega), hd (m + 66) 1 (by omega), hd (m + 67) 8 (by omega), hd (m + 75) 8 (by omega), hd (m + 83) 8 (by omega)]
theorem evsAt_take (l : List Int) (n k : Nat) (h : 91 * k ≤ n) : evsAt (l.take n) k = evsAt l k := by
  unfold evsAt
  refine List.map_congr_left fun i hi => readAt_take l _ n ?_
  have := List.mem_range.1 hi
  omega
/-- Bytes of events, cut. -/
theorem allE_puts_take {L : List Ev} (h : ∀ e ∈ L, emayB e = true) (ok : ∀ e ∈ L, e.ok) (n : Nat) (hn : n ≤ (putsE L).length) :
    allE ((putsE L).take n) = if n % 91 = 0 then (L.take (n / 91), 0) else ([], 5) := by
  have hl := putsE_length h
  have hlen : ((putsE L).take n).length = n := by rw [List.length_take]; omega
  have hq := fun k hk => evsAt_puts h ok [] k hk
  simp only [List.append_nil] at hq
  by_cases hz : n % 91 = 0
  · rw [if_pos hz]
    have hg : goodB ((putsE L).take n) = true := by
      refine goodB_yes (k := n / 91) (by rw [hlen]; omega) fun i hi => ?_
      obtain ⟨e, he⟩ : ∃ e, L[i]? = some e := ⟨L[i]'(by omega), List.getElem?_eq_getElem (by omega)⟩
      have := readAt_puts h ok [] i e he
      rw [List.append_nil] at this
      rw [readAt_take _ _ _ (by omega), this]
      exact h e (List.mem_of_getElem? he)
    rw [allE_yes hg, hlen, evsAt_take _ _ _ (by omega), hq _ (by omega)]
  · rw [if_neg hz]
    have hg : goodB ((putsE L).take n) = false := by unfold goodB; rw [hlen, decide_eq_false hz]; rfl
    exact allE_no hg
theorem allE_len {l : List Int} (h : l.length % 91 ≠ 0) : allE l = ([], 5) := allE_no (by unfold goodB; rw [decide_eq_false h]; rfl)
end Go.Proofs.Ytgannlbhhanflaa
