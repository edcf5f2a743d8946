/-
  A region that draws its order, whose last operations can come in one order alone, behind all others: the others by the loose walk, the last as they stand. No program here.
-/
import Derived.Test.YtgannlbhhanflaaPre
namespace Go.Proofs.Ytgannlbhhanflaa
set_option linter.unusedVariables false
set_option linter.unusedSimpArgs false
open Go.RowKit Go

/-- Operation number i waits for number k, itself or through others. -/
def ancB (md : Region.Mode) (ops : Array Oper) (k : Nat) : Nat → Nat → Bool
  | 0, _ => false
  | f + 1, i => ((ops[i]?).map fun o => o.after.toList.any fun e => Region.binds md e && (e.on == k || ancB md ops k f e.on)).getD false
/-- The first n operations have no guard and wait for earlier ones alone; each other one waits for all of them. -/
def postB (md : Region.Mode) (ops : Array Oper) (n : Nat) : Bool :=
  ((List.range n).all fun i => ((ops[i]?).map fun o => o.guard.isNone && o.after.toList.all fun e => !Region.binds md e || decide (e.on < i)).getD false) &&
  ((List.range ops.size).all fun i => decide (i < n) || (List.range n).all fun k => ancB md ops k ops.size i)
theorem postB_head {md : Region.Mode} {ops : Array Oper} {n i : Nat} (h : postB md ops n = true) (hi : i < n) : ∃ o, ops[i]? = some o ∧ o.guard = none ∧ ∀ e ∈ o.after, Region.binds md e = true → e.on < i := by
  simp only [postB, Bool.and_eq_true, List.all_eq_true, List.mem_range] at h
  have h1 := h.1 i hi
  cases ho : ops[i]? with
  | none => rw [ho] at h1; cases h1
  | some o =>
    rw [ho] at h1
    simp only [Option.map_some, Option.getD_some, Bool.and_eq_true, List.all_eq_true, Bool.or_eq_true, Bool.not_eq_true', decide_eq_true_eq, Option.isNone_iff_eq_none] at h1
    refine ⟨o, rfl, h1.1, fun e he hb => ?_⟩
    rcases h1.2 e (by simpa using he) with h2 | h2
    · rw [h2] at hb; cases hb
    · exact h2
theorem postB_tail {md : Region.Mode} {ops : Array Oper} {n i k : Nat} (h : postB md ops n = true) (hi : i < ops.size) (hni : n ≤ i) (hk : k < n) : ancB md ops k ops.size i = true := by
  simp only [postB, Bool.and_eq_true, List.all_eq_true, List.mem_range, Bool.or_eq_true, decide_eq_true_eq] at h
  rcases h.2 i hi with h2 | h2
  · omega
  · exact h2 k hk
/-- What is listed has all that it waits for listed. -/
def DownB (md : Region.Mode) (ops : Array Oper) (LS : Array Bool) : Prop := ∀ j o, ops[j]? = some o → LS.getD j false = true → ∀ e ∈ o.after, Region.binds md e = true → LS.getD e.on false = true
theorem anc_listed {md : Region.Mode} {ops : Array Oper} {LS : Array Bool} {k : Nat} (hD : DownB md ops LS) : ∀ (f i : Nat), ancB md ops k f i = true → (∀ o, ops[i]? = some o → ∀ e ∈ o.after, Region.binds md e = true → LS.getD e.on false = true) → LS.getD k false = true
  | 0, _, h, _ => by cases h
  | f + 1, i, h, hi => by
    unfold ancB at h
    cases ho : ops[i]? with
    | none => rw [ho] at h; cases h
    | some o =>
      rw [ho] at h
      simp only [Option.map_some, Option.getD_some, List.any_eq_true, Bool.and_eq_true, Bool.or_eq_true, beq_iff_eq] at h
      obtain ⟨e, he, hb, h2⟩ := h
      have hl := hi o ho e (by simpa using he) hb
      rcases h2 with h2 | h2
      · rw [← h2]; exact hl
      · exact anc_listed hD f e.on h2 fun o' ho' e' he' hb' => hD e.on o' ho' hl e' he' hb'
theorem rep_getD (n i : Nat) : (Array.replicate n false).getD i false = false := by
  rw [Array.getD_eq_getD_getElem?, Array.getElem?_replicate]
  split <;> rfl
theorem listedN_size : ∀ (n k : Nat) (A : Array Bool), (listedN n k A).size = A.size
  | 0, _, _ => rfl
  | n + 1, k, A => by rw [listedN, listedN_size n]; simp
theorem listedN_get : ∀ (n k i : Nat) (A : Array Bool), i < A.size → (listedN n k A).getD i false = if k ≤ i ∧ i < k + n then true else A.getD i false
  | 0, k, i, A, _ => by rw [if_neg (by omega)]; rfl
  | n + 1, k, i, A, hi => by
    rw [listedN, listedN_get n (k + 1) i _ (by simpa using hi)]
    by_cases hk : k = i
    · subst hk
      rw [if_neg (by omega), if_pos (by omega)]
      simp [hi]
    · rw [getD_set_ne false hk]
      by_cases h : k + 1 ≤ i ∧ i < k + 1 + n
      · rw [if_pos h, if_pos (by omega)]
      · rw [if_neg h, if_neg (by omega)]
theorem count_set_true : ∀ (l : List Bool) (i : Nat), l[i]? = some false → (l.set i true).count false + 1 = l.count false
  | [], i, h => by simp at h
  | b :: l, 0, h => by
    simp at h
    subst h
    simp
  | b :: l, i + 1, h => by
    have := count_set_true l i (by simpa using h)
    rw [List.set_cons_succ, List.count_cons, List.count_cons]
    omega
section
variable {P : Program} {md : Region.Mode} {Q : Exit → Act → World → Prop}
theorem wpAny_trunc {l : List Oper} {n m : Nat} (hn : n ≤ l.length) (hP : postB md l.toArray n = true) {K : Act → World → Prop} (hK : ∀ a w, K a w → wpAny P md l.toArray Q m (listedN n 0 (Array.replicate l.length false)) a w) : ∀ (fuel : Nat) (ls LS : Array Bool) (a : Act) (w : World),
    ls.size = n → LS.size = l.length → (∀ i, i < n → ls.getD i false = LS.getD i false) → (∀ i, n ≤ i → LS.getD i false = false) → DownB md l.toArray LS → ls.toList.count false = fuel →
    wpAny P md (l.take n).toArray (preQ Q K) fuel ls a w → wpAny P md l.toArray Q (fuel + m) LS a w
  | 0, ls, LS, a, w, s1, s2, hE, hT, hD, hc, h => by
    have e : LS = listedN n 0 (Array.replicate l.length false) := by
      refine Array.ext (by rw [listedN_size, s2]; simp) fun i h1 h2 => ?_
      have g := listedN_get n 0 i (Array.replicate l.length false) (by simpa using s2 ▸ h1)
      have g1 : LS.getD i false = LS[i] := by simp [h1]
      have g2 : (listedN n 0 (Array.replicate l.length false)).getD i false = (listedN n 0 (Array.replicate l.length false))[i] := by simp [h2]
      rw [← g1, ← g2, g]
      by_cases hi : i < n
      · rw [if_pos (by omega), ← hE i hi]
        have hz : false ∉ ls.toList := List.count_eq_zero.1 hc
        have hz2 : ls[i]'(by omega) ≠ false := fun hh => hz (by rw [← hh]; simp)
        simp [s1, hi]
        simpa using hz2
      · rw [if_neg (by omega), hT i (by omega)]
        simp [← s2, h1]
    rw [Nat.zero_add, e]
    exact hK a w h.2
  | k + 1, ls, LS, a, w, s1, s2, hE, hT, hD, hc, h => by
    have take_get : ∀ i, i < n → (l.take n).toArray[i]? = l.toArray[i]? := fun i hi => by simp [List.getElem?_take, hi]
    -- the first that is not listed is ready
    have hne : ∃ i, i ∈ Region.ready md l.toArray LS := by
      have hm : false ∈ ls.toList := by
        rw [← List.count_pos_iff]; omega
      have hlt : ls.toList.findIdx (fun b => !b) < ls.toList.length := List.findIdx_lt_length_of_exists ⟨false, hm, rfl⟩
      have hlt' : ls.toList.findIdx (fun b => !b) < n := by simpa [s1] using hlt
      have h0 := List.findIdx_getElem (w := hlt)
      have hb : ∀ j, j < ls.toList.findIdx (fun b => !b) → ls.getD j false = true := fun j hj => by
        have := List.not_of_lt_findIdx hj
        have hjs : j < ls.size := by omega
        simpa [hjs] using this
      generalize ls.toList.findIdx (fun b => !b) = i at *
      refine ⟨i, mem_ready.2 ⟨?_, ?_⟩⟩
      · have h1 := hE i hlt'
        have his : i < ls.size := by omega
        have hiS : i < LS.size := by omega
        have h2 : ls.getD i false = false := by simpa [his] using h0
        rw [h2] at h1
        simpa [hiS] using h1.symm
      · obtain ⟨o, ho, _, hd⟩ := postB_head hP hlt'
        refine ⟨o, ho, fun e he hbd => ?_⟩
        have := hd e he hbd
        rw [← hE e.on (by omega)]
        exact hb e.on this
    rw [show k + 1 + m = (k + m) + 1 from by omega]
    refine ⟨fun h0 => ?_, fun i hi => ?_⟩
    · obtain ⟨i, hi⟩ := hne
      rw [h0] at hi
      cases hi
    · obtain ⟨hi0, o, ho, hdep⟩ := mem_ready.1 hi
      have hil : i < l.length := by simpa using (Array.getElem?_eq_some_iff.1 ho).1
      have hin : i < n := by
        rcases Nat.lt_or_ge i n with hh | hh
        · exact hh
        · exfalso
          have hm : false ∈ ls.toList := by
            rw [← List.count_pos_iff]; omega
          obtain ⟨j, hj, hjf⟩ := List.mem_iff_getElem.1 hm
          have hjn : j < n := by simpa [s1] using hj
          have h1 := anc_listed hD _ i (postB_tail hP (by simpa using hil) hh hjn) fun o' ho' e he hb => by
            rw [ho] at ho'; cases ho'; exact hdep e he hb
          rw [← hE j hjn] at h1
          have hjs : j < ls.size := by omega
          have h2 : ls.getD j false = false := by simpa [hjs] using hjf
          rw [h1] at h2; cases h2
      obtain ⟨o', ho', hg, hd⟩ := postB_head hP hin
      rw [ho] at ho'
      cases ho'
      have his : i < ls.size := by omega
      have hiS : i < LS.size := by omega
      have hLf : LS.getD i false = false := by simpa [hiS] using hi0
      have hlf : ls.getD i false = false := by rw [hE i hin]; exact hLf
      have hr1 : i ∈ Region.ready md (l.take n).toArray ls := mem_ready.2 ⟨by simpa [his] using hlf, o, by rw [take_get i hin]; exact ho, fun e he hb => by
        have h1 := hd e he hb
        rw [hE e.on (by omega)]
        exact hdep e he hb⟩
      have h7 := h.2 i hr1
      have hw : ∀ y, Region.wanted o y = true := fun y => by unfold Region.wanted; rw [hg]
      have hD2 : DownB md l.toArray (LS.setIfInBounds i true) := fun j oj hoj hjl e he hb => by
        by_cases hij : i = j
        · subst hij
          rw [ho] at hoj
          cases hoj
          exact getD_set_true (hdep e he hb)
        · rw [getD_set_ne false hij] at hjl
          exact getD_set_true (hD j oj hoj hjl e he hb)
      have hc2 : (ls.setIfInBounds i true).toList.count false = k := by
        have := count_set_true ls.toList i (by
          have : ls[i]? = some false := by simpa [his] using hlf
          simpa using this)
        rw [Array.toList_setIfInBounds]
        omega
      have hE2 : ∀ j, j < n → (ls.setIfInBounds i true).getD j false = (LS.setIfInBounds i true).getD j false := fun j hj => by
        by_cases hij : i = j
        · subst hij
          simp [his, hiS]
        · rw [getD_set_ne false hij, getD_set_ne false hij]
          exact hE j hj
      have hT2 : ∀ j, n ≤ j → (LS.setIfInBounds i true).getD j false = false := fun j hj => by
        rw [getD_set_ne false (by omega)]
        exact hT j hj
      have ih := fun a w hh => wpAny_trunc hn hP hK k (ls.setIfInBounds i true) (LS.setIfInBounds i true) a w (by simpa using s1) (by simpa using s2) hE2 hT2 hD2 hc2 hh
      unfold wpOp at h7 ⊢
      simp only [take_get i hin, ho, hw, if_true] at h7 ⊢
      rcases h7 with h7 | ⟨g1, g2⟩
      · exact .inl (Oper.wp_mono ih (upon_pre _ h7))
      · exact .inr ⟨g1, g2⟩
theorem preQ_self : preQ Q (fun a w => Q .normal a w) = Q := by
  funext x a w
  cases x <;> rfl
/-- The first n operations by the loose walk, then the others in their one order. -/
theorem wp_region_post {id : Nat} {Q : Exit → Act → World → Prop} {a : Act} {w : World} {l : List Oper} (n : Nat) (E : List En) (hm : P.follows .mixedOrders = true) (hn : n ≤ l.length)
    (hT : postB .any l.toArray n = true)
    (hB : Region.lexB .any (l.take n).toArray = true) (hF : forcedB .any l.toArray (l.drop n).length n (listedN n 0 (Array.replicate l.length false)) = true)
    (hE : (Region.ready .any l.toArray (listedN (l.drop n).length n (listedN n 0 (Array.replicate l.length false)))).isEmpty = true)
    (h : Lw P (l.take n).toArray w E (fun a' F' => ∀ w', Below w.heap.size w w' → (∀ k u, F' k u → enR E k u w') → wpList P l.toArray Q (l.drop n) a' w') 0 (l.take n) a (fun _ _ => False)) : (Code.region id l.toArray true).wp P Q a w := by
  refine wp_region_any hm ?_
  simp only [Region.lexB, Bool.and_eq_true] at hB
  have hK : ∀ a w, wpList P l.toArray Q (l.drop n) a w → wpAny P .any l.toArray Q (l.drop n).length (listedN n 0 (Array.replicate l.length false)) a w := fun a w hh => by
    have h2 := wpAny_pre (P := P) (md := .any) (Q := Q) (K := fun a w => Q .normal a w) (l.drop n).length n (listedN n 0 (Array.replicate l.length false)) (l.drop n) a w 0
      (fun a w hq => ⟨by simpa using hE, hq⟩) rfl (fun j _ => by simp) hF (by rw [preQ_self]; exact hh)
    exact h2
  have hL := wpAnyL_lex (P := P) (C := fun w' => Below w.heap.size w w') (T := enT E) (R := enR E) (md := .any) (Q := fun a' F' => ∀ w', Below w.heap.size w w' → (∀ k u, F' k u → enR E k u w') → wpList P l.toArray Q (l.drop n) a' w') hB.1 (l.take n) 0 (Array.replicate (l.take n).length false) a (fun _ _ => False) (by simp) (by simpa using hB.2) h
  have h1 : wpAny P .any (l.take n).toArray (preQ Q (fun a w => wpList P l.toArray Q (l.drop n) a w)) (l.take n).length (Array.replicate (l.take n).length false) a w.drew :=
    wpAny_of_loose (T := enT E) (Q := fun a' F' => ∀ w', Below w.heap.size w w' → (∀ k u, F' k u → enR E k u w') → wpList P l.toArray Q (l.drop n) a' w') enR_below (fun _ F w' hw' hF hh => hh w' hw' hF) _ _ _ (fun _ _ => False) _ (Below.refl _ _).drew (fun _ _ hh => False.elim hh) hL
  have hn2 : (l.take n).length = n := by simp; omega
  have h3 := wpAny_trunc (n := n) (m := (l.drop n).length) hn hT hK (l.take n).length (Array.replicate (l.take n).length false) (Array.replicate l.length false) a w.drew (by simp; omega) (by simp)
    (fun i hi => by
      rw [rep_getD, rep_getD]) (fun i _ => rep_getD _ _) (fun j o _ hj => by rw [rep_getD] at hj; cases hj) (by simp) h1
  have e : (l.take n).length + (l.drop n).length = l.length := by rw [← List.length_append, List.take_append_drop]
  rw [e] at h3
  simpa using h3
end
end Go.Proofs.Ytgannlbhhanflaa
