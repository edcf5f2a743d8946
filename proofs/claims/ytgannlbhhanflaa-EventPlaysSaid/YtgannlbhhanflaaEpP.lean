/-
  An event's bytes: plain.
-/
import Derived.Test.YtgannlbhhanflaaEvP
import Derived.Test.YtgannlbhhanflaaBytP
namespace Go.Proofs.Ytgannlbhhanflaa
set_option linter.unusedVariables false
set_option linter.unusedSimpArgs false
open Go.RowKit

/-- An event's bytes. -/
def evL (e : Ev) : List Int := e.o :: (wordL e.s ++ (vecL e.d ++ (e.k :: (wordL e.n ++ (e.t :: (wordL e.a ++ (wordL e.r ++ wordL e.f)))))))
theorem evL_length (e : Ev) : (evL e).length = 91 := rfl
/-- What is put: an event's bytes if it may be. -/
def putE (e : Ev) : List Int := if emayB e = true then evL e else []
theorem putE_yes {e : Ev} (h : emayB e = true) : putE e = evL e := if_pos h
theorem putE_no {e : Ev} (h : emayB e = false) : putE e = [] := if_neg (by simp [h])
theorem putE_length_le (e : Ev) : (putE e).length ≤ 91 := by unfold putE; split <;> simp [evL_length]
/-- The numbers of one that may be. -/
structure May (e : Ev) : Prop where
  o1 : 1 ≤ e.o
  o2 : e.o ≤ 6
  s1 : 1 ≤ e.s
  s2 : e.s < 1099511627776
  k1 : 1 ≤ e.k
  k2 : e.k ≤ 7
  t1 : 0 ≤ e.t
  t2 : e.t ≤ 6
  a1 : 0 ≤ e.a
  a2 : e.a ≤ 1125899906842624
theorem may_of {e : Ev} (h : emayB e = true) : May e := by
  unfold emayB at h
  simp only [Bool.and_eq_true] at h
  obtain ⟨hp, hf, hl⟩ := h
  have hl := (left_own e).1 (of_decide_eq_true hl)
  have ho : (1 ≤ e.o ∧ e.o ≤ 6) ∧ 1 ≤ e.s ∧ e.s < 1099511627776 := by
    unfold placeB regE at hp
    simp only [Bool.and_eq_true, decide_eq_true_eq] at hp
    exact ⟨hp.1.1.1.1, hp.1.1.1.2, hp.1.1.2⟩
  obtain ⟨⟨o1, o2⟩, s1, s2⟩ := ho
  have key : (1 ≤ e.k ∧ e.k ≤ 7) ∧ (0 ≤ e.t ∧ e.t ≤ 6) ∧ 0 ≤ e.a ∧ e.a ≤ 1125899906842624 := by
    obtain ⟨o, s, d, k, n, t, a, r, f⟩ := e
    unfold ownE Ev.bare at hl
    unfold fieldsB amountB toB regE at hf
    simp only at hl hf o1 o2 s1 s2 ⊢
    by_cases h1 : k = 1
    · subst h1; simp at hl hf; omega
    by_cases h2 : k = 2
    · subst h2; simp at hl hf; omega
    by_cases h3 : k = 3
    · subst h3; simp at hl hf; omega
    by_cases h4 : k = 4
    · subst h4; simp at hl hf; omega
    by_cases h5 : k = 5
    · subst h5; simp at hl hf; omega
    by_cases h6 : k = 6
    · subst h6; simp at hl hf; omega
    · simp [h1, h2, h3, h4, h5, h6] at hl hf; omega
  exact ⟨o1, o2, s1, s2, key.1.1, key.1.2, key.2.1.1, key.2.1.2, key.2.2.1, key.2.2.2⟩
theorem wordL_range (n : Int) : ∀ c ∈ wordL n, 0 ≤ c ∧ c ≤ 255 := by
  intro c hc
  simp only [wordL, List.mem_cons, List.mem_nil_iff, or_false] at hc
  rcases hc with rfl | rfl | rfl | rfl | rfl | rfl | rfl | rfl <;> exact byteAt_range _ _
theorem evL_range {e : Ev} (h : May e) : ∀ c ∈ evL e, 0 ≤ c ∧ c ≤ 255 := by
  intro c hc
  obtain ⟨o1, o2, s1, s2, k1, k2, t1, t2, a1, a2⟩ := h
  simp only [evL, List.mem_cons, List.mem_append] at hc
  rcases hc with rfl | hc | hc | rfl | hc | rfl | hc | hc | hc
  · omega
  · exact wordL_range _ c hc
  · exact vecL_range _ c hc
  · omega
  · exact wordL_range _ c hc
  · omega
  · exact wordL_range _ c hc
  · exact wordL_range _ c hc
  · exact wordL_range _ c hc
theorem putE_range (e : Ev) : ∀ c ∈ putE e, 0 ≤ c ∧ c ≤ 255 := by
  intro c hc
  cases h : emayB e with
  | true => rw [putE_yes h] at hc; exact evL_range (may_of h) c hc
  | false => rw [putE_no h] at hc; cases hc
/-- The event that 91 bytes are. -/
def ofE (l : List Int) : Ev :=
  ⟨l.getD 0 0, numL ((l.drop 1).take 8), ofL ((l.drop 9).take 48), l.getD 57 0, numL ((l.drop 58).take 8), l.getD 66 0, numL ((l.drop 67).take 8), numL ((l.drop 75).take 8), numL ((l.drop 83).take 8)⟩
theorem ofE_evL {e : Ev} (hv : e.ok) (h : May e) : ofE (evL e) = e := by
  obtain ⟨o1, o2, s1, s2, k1, k2, t1, t2, a1, a2⟩ := h
  have e1 : ((evL e).drop 1).take 8 = wordL e.s := rfl
  have e2 : ((evL e).drop 9).take 48 = vecL e.d := rfl
  have e3 : ((evL e).drop 58).take 8 = wordL e.n := rfl
  have e4 : ((evL e).drop 67).take 8 = wordL e.a := rfl
  have e5 : ((evL e).drop 75).take 8 = wordL e.r := rfl
  have e6 : ((evL e).drop 83).take 8 = wordL e.f := rfl
  unfold ofE
  rw [e1, e2, e3, e4, e5, e6, numL_word _ hv.s.1 hv.s.2, ofL_vecL _ hv.d, numL_word _ hv.n.1 hv.n.2, numL_word e.a a1 (by omega), numL_word _ hv.r.1 hv.r.2, numL_word _ hv.f.1 hv.f.2]
  rfl
theorem split_one (l : List Int) (k : Nat) (h : k < l.length) : l.drop k = l.getD k 0 :: l.drop (k + 1) := by
  rw [List.drop_eq_getElem_cons h, List.getD_eq_getElem?_getD, List.getElem?_eq_getElem h]; rfl
theorem split_many (l : List Int) (k n : Nat) : l.drop k = (l.drop k).take n ++ l.drop (k + n) := by
  rw [← List.drop_drop]; exact (List.take_append_drop n (l.drop k)).symm
theorem evL_ofE {l : List Int} (hl : l.length = 91) (h : ∀ c ∈ l, 0 ≤ c ∧ c ≤ 255) : evL (ofE l) = l := by
  have hw : ∀ k, k + 8 ≤ 91 → wordL (numL ((l.drop k).take 8)) = (l.drop k).take 8 := fun k hk =>
    word_numL _ (by rw [List.length_take, List.length_drop, hl]; omega) fun c hc => h c (List.mem_of_mem_drop (List.mem_of_mem_take hc))
  have hv : vecL (ofL ((l.drop 9).take 48)) = (l.drop 9).take 48 :=
    vecL_ofL _ (by rw [List.length_take, List.length_drop, hl]; rfl) fun c hc => h c (List.mem_of_mem_drop (List.mem_of_mem_take hc))
  have t : (l.drop 83).take 8 = l.drop 83 := List.take_of_length_le (by rw [List.length_drop, hl]; decide)
  unfold evL ofE
  simp only
  rw [hw 1 (by omega), hv, hw 58 (by omega), hw 67 (by omega), hw 75 (by omega), hw 83 (by omega), t]
  rw [← split_many l 75 8, ← split_many l 67 8, ← split_one l 66 (by omega), ← split_many l 58 8, ← split_one l 57 (by omega), ← split_many l 9 48, ← split_many l 1 8, ← split_one l 0 (by omega)]
  rfl
/-- A number of 64 bits, signed. -/
def toI64 (n : Int) : Int := IntKind.i64.wrap n
/-- The event that bytes give, as it is read: the amount is signed. -/
def readE (l : List Int) : Ev := { ofE l with a := IntKind.i64.wrap (ofE l).a }
end Go.Proofs.Ytgannlbhhanflaa
