/-
  A region that draws its order, whose last operations can come in one order alone, behind all others: the others by the loose walk, the last as they stand. No program here.
-/
import Derived.Test.YtgannlbhhanflaaPre
namespace Go.Proofs.Ytgannlbhhanflaa
set_option linter.unusedVariables false
set_option linter.unusedSimpArgs false
open Go.RowKit Go

/-- The first operations among themselves are ready just when they are ready in the whole region; these have no guard. -/
def truncB (md : Region.Mode) (ops1 ops goal : Array Bool → List Nat) (g : Nat → Bool) (full : Array Bool) : Nat → Array Bool → Array Bool → Bool
  | 0, _, LS => LS == full
  | k + 1, ls, LS => !(ops1 ls).isEmpty && (ops LS == ops1 ls) && (ops1 ls).all fun i => g i && truncB md ops1 ops goal g full k (ls.setIfInBounds i true) (LS.setIfInBounds i true)
def sameAt (a b : Array Oper) (i : Nat) : Bool := decide (i < a.size) && decide (i < b.size) && ((a[i]?).map fun o => o.guard.isNone).getD false
section
variable {P : Program} {md : Region.Mode} {Q : Exit → Act → World → Prop}
theorem wpAny_trunc {l : List Oper} {n m : Nat} (full : Array Bool) {K : Act → World → Prop} (hK : ∀ a w, K a w → wpAny P md l.toArray Q m full a w) : ∀ (fuel : Nat) (ls LS : Array Bool) (a : Act) (w : World),
    truncB md (Region.ready md (l.take n).toArray) (Region.ready md l.toArray) (fun _ => []) (sameAt (l.take n).toArray l.toArray) full fuel ls LS = true →
    wpAny P md (l.take n).toArray (preQ Q K) fuel ls a w → wpAny P md l.toArray Q (fuel + m) LS a w
  | 0, ls, LS, a, w, hB, h => by
    simp only [truncB, beq_iff_eq] at hB
    subst hB
    rw [Nat.zero_add]
    exact hK a w h.2
  | k + 1, ls, LS, a, w, hB, h => by
    simp only [truncB, Bool.and_eq_true, beq_iff_eq, Bool.not_eq_true'] at hB
    obtain ⟨⟨h1, h2⟩, h3⟩ := hB
    rw [show k + 1 + m = (k + m) + 1 from by omega]
    refine ⟨fun h0 => ?_, fun i hi => ?_⟩
    · rw [h2] at h0
      rw [h0] at h1
      cases h1
    · rw [h2] at hi
      have h4 := List.all_eq_true.1 h3 i hi
      simp only [Bool.and_eq_true] at h4
      obtain ⟨h5, h6⟩ := h4
      have h7 := h.2 i hi
      simp only [sameAt, Bool.and_eq_true, decide_eq_true_eq] at h5
      obtain ⟨⟨s1, s2⟩, s3⟩ := h5
      obtain ⟨o, ho⟩ : ∃ o, (l.take n).toArray[i]? = some o := ⟨_, Array.getElem?_eq_getElem s1⟩
      have ho2 : l.toArray[i]? = some o := by
        have : (l.take n)[i]? = some o := by simpa using ho
        rw [List.getElem?_take] at this
        split at this
        · simpa using this
        · cases this
      have hg : o.guard = none := by
        rw [ho] at s3
        simpa using s3
      have hw : ∀ y, Region.wanted o y = true := fun y => by unfold Region.wanted; rw [hg]
      unfold wpOp at h7 ⊢
      simp only [ho, ho2, hw, if_true] at h7 ⊢
      rcases h7 with h7 | ⟨g1, g2⟩
      · exact .inl (Oper.wp_mono (fun a w hh => wpAny_trunc full hK k _ _ a w h6 hh) (upon_pre _ h7))
      · exact .inr ⟨g1, g2⟩
theorem preQ_self : preQ Q (fun a w => Q .normal a w) = Q := by
  funext x a w
  cases x <;> rfl
/-- The first n operations by the loose walk, then the others in their one order. -/
theorem wp_region_post {id : Nat} {Q : Exit → Act → World → Prop} {a : Act} {w : World} {l : List Oper} (n : Nat) (E : List En) (hm : P.follows .mixedOrders = true) (hn : n ≤ l.length)
    (hT : truncB .any (Region.ready .any (l.take n).toArray) (Region.ready .any l.toArray) (fun _ => []) (sameAt (l.take n).toArray l.toArray) (listedN n 0 (Array.replicate l.length false)) (l.take n).length (Array.replicate (l.take n).length false) (Array.replicate l.length false) = true)
    (hB : Region.lexB .any (l.take n).toArray = true) (hF : forcedB .any l.toArray (l.drop n).length n (listedN n 0 (Array.replicate l.length false)) = true)
    (hE : (Region.ready .any l.toArray (listedN (l.drop n).length n (listedN n 0 (Array.replicate l.length false)))).isEmpty = true)
    (h : Lw P (l.take n).toArray w E (fun a' F' => ∀ w', Below w.heap.size w w' → (∀ k u, F' k u → enR E k u w') → wpList P l.toArray Q (l.drop n) a' w') 0 (l.take n) a (fun _ _ => False)) : (Code.region id l.toArray true).wp P Q a w := by
  refine wp_region_any hm ?_
  simp only [Region.lexB, Bool.and_eq_true] at hB
  have hK : ∀ a w, wpList P l.toArray Q (l.drop n) a w → wpAny P .any l.toArray Q (l.drop n).length (listedN n 0 (Array.replicate l.length false)) a w := fun a w hh => by
    have h2 := wpAny_pre (P := P) (md := .any) (Q := Q) (K := fun a w => Q .normal a w) (l.drop n).length n (listedN n 0 (Array.replicate l.length false)) (l.drop n) a w 0
      (fun a w hq => ⟨by simpa using hE, hq⟩) rfl (fun j _ => by simp) hF (by rw [preQ_self]; exact hh)
    exact h2
  have hL := wpAnyL_lex (P := P) (C := fun w' => Below w.heap.size w w') (T := enT E) (R := enR E) (md := .any) (Q := fun a' F' => ∀ w', Below w.heap.size w w' → (∀ k u, F' k u → enR E k u w') → wpList P l.toArray Q (l.drop n) a' w') hB.1 (l.take n) 0 (Array.replicate (l.take n).length false) a (fun _ _ => False) (by simp) (by simpa using hB.2) h
  have h1 : wpAny P .any (l.take n).toArray (preQ Q (fun a w => wpList P l.toArray Q (l.drop n) a w)) (l.take n).length (Array.replicate (l.take n).length false) a w.drew :=
    wpAny_of_loose (T := enT E) (Q := fun a' F' => ∀ w', Below w.heap.size w w' → (∀ k u, F' k u → enR E k u w') → wpList P l.toArray Q (l.drop n) a' w') enR_below (fun _ F w' hw' hF hh => hh w' hw' hF) _ _ _ (fun _ _ => False) _ (Below.refl _ _).drew (fun _ _ hh => False.elim hh) hL
  have h3 := wpAny_trunc (n := n) (m := (l.drop n).length) (listedN n 0 (Array.replicate l.length false)) hK (l.take n).length (Array.replicate (l.take n).length false) (Array.replicate l.length false) a w.drew hT h1
  have e : (l.take n).length + (l.drop n).length = l.length := by rw [← List.length_append, List.take_append_drop]
  rw [e] at h3
  simpa using h3
end
end Go.Proofs.Ytgannlbhhanflaa
