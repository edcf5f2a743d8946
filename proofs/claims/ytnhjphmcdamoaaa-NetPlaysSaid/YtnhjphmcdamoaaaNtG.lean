/-
  The walk of leatlaw23.NetCounts: what it leans on.
-/
import Derived.Test.YtnhjphmcdamoaaaNtF
namespace Go.Proofs.Ytnhjphmcdamoaaa
set_option linter.unusedVariables false
set_option linter.unusedSimpArgs false
open Go.RowKit Go
set_option maxRecDepth 100000

theorem Net.norm {w0 w : World} {bs : List (Nat × TypeId × Array Value)} {h : Nat} {s : Value} {X : List Mc} {L : List Ms} {C : Nat → Bool} (N : Net w0 w bs h s X L C) (n : Nat) (hn : L.length = n) : ∃ A c, s = .slice A n c := by
  obtain ⟨A, c, e, -⟩ := own_open N.own
  exact ⟨A, c, by rw [e, N.evs.len, hn]⟩
/-- What NetCounts keeps: each message under way was put; so many were put and doubled, so many went. -/
structure Cnt (P : List Stp) (i : Nat) (L : List Ms) (put gone : Int) : Prop where
  was : ∀ m ∈ L, ∃ p ∈ P.take i, Int.tmod p.o 6 = 0 ∧ p.m = m
  len : put = gone + (L.length : Int)
  le : L.length ≤ 128
  b : 0 ≤ put ∧ put ≤ (i : Int) ∧ 0 ≤ gone ∧ gone ≤ (i : Int)
theorem take_mono {α : Type} {P : List α} {i : Nat} {p : α} (h : p ∈ P.take i) : p ∈ P.take (i + 1) := by
  rw [List.take_add_one]
  exact List.mem_append_left _ h
theorem Cnt.same {P : List Stp} {i : Nat} {L : List Ms} {put gone : Int} (h : Cnt P i L put gone) : Cnt P (i + 1) L put gone :=
  ⟨fun m hm => by obtain ⟨p, hp, r⟩ := h.was m hm; exact ⟨p, take_mono hp, r⟩, h.len, h.le, by have := h.b; omega⟩
theorem Cnt.put {P : List Stp} {i : Nat} {L : List Ms} {put gone : Int} (h : Cnt P i L put gone) {p : Stp} (hp : P[i]? = some p) (h0 : Int.tmod p.o 6 = 0) (hl : L.length < 128) (put' : Int) (e : put' = put + 1) : Cnt P (i + 1) (L ++ [p.m]) put' gone := by
  subst e
  refine ⟨fun m hm => ?_, ?_, ?_, ?_⟩
  · rcases List.mem_append.1 hm with hm | hm
    · obtain ⟨q, hq, r⟩ := h.was m hm; exact ⟨q, take_mono hq, r⟩
    · obtain rfl := List.mem_singleton.1 hm
      exact ⟨p, by rw [List.take_add_one, hp]; simp, h0, rfl⟩
  · have := h.len; rw [List.length_append]; simp; omega
  · rw [List.length_append]; simp; omega
  · have := h.b; omega
theorem Cnt.twice {P : List Stp} {i : Nat} {L : List Ms} {put gone : Int} (h : Cnt P i L put gone) {x : Ms} (hx : x ∈ L) (hl : L.length < 128) (put' : Int) (e : put' = put + 1) : Cnt P (i + 1) (L ++ [x]) put' gone := by
  subst e
  refine ⟨fun m hm => ?_, ?_, ?_, ?_⟩
  · rcases List.mem_append.1 hm with hm | hm
    · obtain ⟨q, hq, r⟩ := h.was m hm; exact ⟨q, take_mono hq, r⟩
    · obtain rfl := List.mem_singleton.1 hm
      obtain ⟨q, hq, r⟩ := h.was m hx; exact ⟨q, take_mono hq, r⟩
  · have := h.len; rw [List.length_append]; simp; omega
  · rw [List.length_append]; simp; omega
  · have := h.b; omega
theorem Cnt.gone {P : List Stp} {i : Nat} {L : List Ms} {put gone : Int} (h : Cnt P i L put gone) {k : Nat} (hk : k < L.length) (gone' : Int) (e : gone' = gone + 1) : Cnt P (i + 1) (L.eraseIdx k) put gone' := by
  subst e
  have hl : (L.eraseIdx k).length = L.length - 1 := List.length_eraseIdx_of_lt hk
  refine ⟨fun m hm => ?_, ?_, ?_, ?_⟩
  · obtain ⟨q, hq, r⟩ := h.was m (List.mem_of_mem_eraseIdx hm); exact ⟨q, take_mono hq, r⟩
  · have := h.len; rw [hl]; omega
  · have := h.le; omega
  · have := h.b; omega
theorem putCases (L : List Ms) (C : Nat → Bool) (m : Ms) : (putC L C m = 0 ∧ putL L C m = L ++ [m] ∧ L.length < 128) ∨ (putC L C m = 0 ∧ putL L C m = L) ∨ (putC L C m = 1 ∧ putL L C m = L) ∨ (putC L C m = 7 ∧ putL L C m = L) := by
  unfold putC putL
  cases mmayB m with
  | false => simp
  | true =>
    cases C (cutI m) with
    | true => simp
    | false =>
      by_cases h : 128 ≤ L.length
      · simp [h]
      · simp [h]; omega
/-- Was the message put, among the first q steps? -/
def anyS (P : List Stp) (q : Nat) (m : Ms) : Bool := (P.take q).any fun p => decide (Int.tmod p.o 6 = 0) && decide (p.m = m)
theorem anyS_zero (P : List Stp) (m : Ms) : anyS P 0 m = false := rfl
theorem anyS_succ {P : List Stp} {q : Nat} {p : Stp} (hp : P[q]? = some p) (m : Ms) : anyS P (q + 1) m = (anyS P q m || (decide (Int.tmod p.o 6 = 0) && decide (p.m = m))) := by
  unfold anyS
  rw [List.take_add_one, hp, List.any_append]
  simp
theorem anyS_yes {P : List Stp} {i : Nat} {L : List Ms} {put gone : Int} (h : Cnt P i L put gone) {m : Ms} (hm : m ∈ L) : anyS P i m = true := by
  obtain ⟨p, hp, h0, h1⟩ := h.was m hm
  unfold anyS
  rw [List.any_eq_true]
  exact ⟨p, hp, by simp [h0, h1]⟩
theorem may_ask (k j : Int) (hk : regE k = true) (hj : regE j = true) (hne : k ≠ j) : mmayB ⟨2, k, j, Vec.zero, [], 9, 1⟩ = true := by
  have hv : vmayB Vec.zero = true := by decide +kernel
  unfold mmayB endsB askB
  simp [hk, hj, hne, hv]
theorem putC_cutd (L : List Ms) (C : Nat → Bool) (m : Ms) (h1 : mmayB m = true) (h2 : C (cutI m) = true) : putC L C m = 0 ∧ putL L C m = L := by
  simp [putC, putL, h1, h2]
/-- An ask of the statement's own. -/
def askMs (k j : Int) : Ms := ⟨2, k, j, Vec.zero, [], 9, 1⟩
theorem askMs_ok {k j : Int} (hk : -9223372036854775808 ≤ k ∧ k ≤ 9223372036854775807) (hj : -9223372036854775808 ≤ j ∧ j ≤ 9223372036854775807) : (askMs k j).ok :=
  ⟨⟨(by decide : (0 : Int) ≤ 2), (by decide : (2 : Int) ≤ 255)⟩, hk, hj, Vec.ok_zero, (fun e he => by cases he), ⟨(by decide : (0 : Int) ≤ 9), (by decide : (9 : Int) ≤ 18446744073709551615)⟩, ⟨(by decide : (-9223372036854775808 : Int) ≤ 1), (by decide : (1 : Int) ≤ 9223372036854775807)⟩⟩
end Go.Proofs.Ytnhjphmcdamoaaa
