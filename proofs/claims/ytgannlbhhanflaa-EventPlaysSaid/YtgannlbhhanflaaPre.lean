/-
  A region that draws its order, whose first operations can come in one order alone: these are walked as they stand, the others by the loose walk. No program here.
-/
import Derived.Test.YtgannlbhhanflaaLz
namespace Go.Proofs.Ytgannlbhhanflaa
set_option linter.unusedVariables false
set_option linter.unusedSimpArgs false
open Go.RowKit Go

/-- What holds at the end of the first operations. -/
def preQ (Q : Exit → Act → World → Prop) (K : Act → World → Prop) : Exit → Act → World → Prop
  | .normal, a, w => K a w
  | x, a, w => Q x a w
def forcedB (md : Region.Mode) (ops : Array Oper) : Nat → Nat → Array Bool → Bool
  | 0, _, _ => true
  | n + 1, k, listed => (Region.ready md ops listed == [k]) && forcedB md ops n (k + 1) (listed.setIfInBounds k true)
def listedN : Nat → Nat → Array Bool → Array Bool
  | 0, _, listed => listed
  | n + 1, k, listed => listedN n (k + 1) (listed.setIfInBounds k true)
section
variable {P : Program} {ops : Array Oper} {md : Region.Mode} {Q : Exit → Act → World → Prop}
theorem upon_pre {o : Oper} {a : Act} {next : Act → World → Prop} {K : Act → World → Prop} (r : Result Next) (h : o.upon P a next (preQ Q K) r) : o.upon P a next Q r := by
  cases r with
  | ok n w =>
    cases n with
    | enter f args =>
      refine Calls.mono (show Calls P f args w _ from h) ?_
      intro e w' h
      cases e <;> exact h
    | _ => exact h
  | halt x w => cases x <;> exact h
theorem wpAny_pre {K : Act → World → Prop} : ∀ (n k : Nat) (listed : Array Bool) (l : List Oper) (a : Act) (w : World) (fuel : Nat), (∀ a w, K a w → wpAny P md ops Q fuel (listedN n k listed) a w) → l.length = n → (∀ j, j < n → l[j]? = ops[k + j]?) → forcedB md ops n k listed = true →
    wpList P ops (preQ Q K) l a w → wpAny P md ops Q (n + fuel) listed a w
  | 0, k, listed, l, a, w, fuel, hK, hl, _, _, h => by
    obtain rfl : l = [] := List.eq_nil_of_length_eq_zero hl
    rw [Nat.zero_add]
    exact hK _ _ h
  | n + 1, k, listed, l, a, w, fuel, hK, hl, hj, hf, h => by
    obtain ⟨o, l, rfl⟩ : ∃ o r, l = o :: r := by
      cases l with
      | nil => cases hl
      | cons o r => exact ⟨o, r, rfl⟩
    simp only [forcedB, Bool.and_eq_true, beq_iff_eq] at hf
    have h0 : ops[k]? = some o := by simpa using (hj 0 (by omega)).symm
    rw [show n + 1 + fuel = (n + fuel) + 1 from by omega]
    refine ⟨fun h => (by rw [hf.1] at h; cases h), fun i hi => ?_⟩
    rw [hf.1] at hi
    obtain rfl : i = k := by simpa using hi
    have ih := fun a w => wpAny_pre n (i + 1) (listed.setIfInBounds i true) l a w fuel hK (by simpa using hl) (fun j hjn => by have := hj (j + 1) (by omega); simpa [Nat.add_assoc, Nat.add_comm 1 j] using this) hf.2
    unfold wpOp
    simp only [h0]
    unfold wpList at h
    split at h
    · rename_i hw
      rw [if_pos hw]
      rcases h with h | ⟨h1, h2⟩
      · exact .inl (Oper.wp_mono ih (upon_pre _ h))
      · exact .inr ⟨h1, h2⟩
    · rename_i hw
      rw [if_neg hw]
      exact ih _ _ h
/-- What is owed behind the first operations: the loose walk of the others. -/
structure PreK (P : Program) (ops : Array Oper) (Q : Exit → Act → World → Prop) (n : Nat) (r : List Oper) (a : Act) (w1 : World) : Prop where
  out : ∃ E, Lw P ops w1 E (fun a' _ => ∀ w', Below w1.heap.size w1 w' → Q .normal a' w') n r a (fun _ _ => False)
theorem preK {n : Nat} {r : List Oper} {a : Act} {w1 : World} (E : List En) (h : Lw P ops w1 E (fun a' _ => ∀ w', Below w1.heap.size w1 w' → Q .normal a' w') n r a (fun _ _ => False)) : preQ Q (PreK P ops Q n r) .normal a w1 := ⟨⟨E, h⟩⟩
/-- The first n operations in their one order, then the others by the loose walk. -/
theorem wp_region_pre {id : Nat} {Q : Exit → Act → World → Prop} {a : Act} {w : World} {l : List Oper} (n : Nat) (hm : P.follows .mixedOrders = true) (hs : Region.noSelect l.toArray = true) (hn : n ≤ l.length)
    (hF : forcedB .any l.toArray n 0 (Array.replicate l.length false) = true) (hB : Region.lexFrom .any l.toArray (l.drop n).length n (listedN n 0 (Array.replicate l.length false)) = true)
    (h : wpList P l.toArray (preQ Q (PreK P l.toArray Q n (l.drop n))) (l.take n) a w.drew) : (Code.region id l.toArray true).wp P Q a w := by
  refine wp_region_any hm ?_
  have hK : ∀ a w1, PreK P l.toArray Q n (l.drop n) a w1 → wpAny P .any l.toArray Q (l.drop n).length (listedN n 0 (Array.replicate l.length false)) a w1 := fun a w1 ⟨⟨E, hE⟩⟩ =>
    wpAny_of_loose (T := enT E) (Q := fun a' _ => ∀ w', Below w1.heap.size w1 w' → Q .normal a' w') enR_below (fun _ _ w' hw' _ h => h w' hw') _ _ _ (fun _ _ => False) _ (Below.refl _ _) (fun _ _ h => False.elim h)
      (wpAnyL_lex hs (l.drop n) n _ a _ (fun j => by simp) hB hE)
  have h2 := wpAny_pre (md := .any) n 0 (Array.replicate l.length false) (l.take n) a w.drew (l.drop n).length hK (by simp; omega) (fun j hj => by simp [hj]) hF h
  rw [List.length_drop, Nat.add_sub_cancel' hn] at h2
  simpa using h2
/-- What is owed behind the first operations, where the others read and call alone. -/
structure PreL (P : Program) (ops : Array Oper) (Q : Exit → Act → World → Prop) (r : List Oper) (a : Act) (w1 : World) : Prop where
  out : wpQuiet P ops (fun w' => ∃ x : Later w1, w' = x.w) (fun a' => ∀ w', (∃ x : Later w1, w' = x.w) → Q .normal a' w') r a
theorem preL {r : List Oper} {a : Act} {w1 : World} (h : wpQuiet P ops (fun w' => ∃ x : Later w1, w' = x.w) (fun a' => ∀ w', (∃ x : Later w1, w' = x.w) → Q .normal a' w') r a) : preQ Q (PreL P ops Q r) .normal a w1 := ⟨h⟩
theorem wp_region_preq {id : Nat} {Q : Exit → Act → World → Prop} {a : Act} {w : World} {l : List Oper} (n : Nat) (hm : P.follows .mixedOrders = true) (hs : Region.noSelect l.toArray = true) (hn : n ≤ l.length)
    (hF : forcedB .any l.toArray n 0 (Array.replicate l.length false) = true) (hB : Region.lexFrom .any l.toArray (l.drop n).length n (listedN n 0 (Array.replicate l.length false)) = true)
    (h : wpList P l.toArray (preQ Q (PreL P l.toArray Q (l.drop n))) (l.take n) a w.drew) : (Code.region id l.toArray true).wp P Q a w := by
  refine wp_region_any hm ?_
  have hK : ∀ a w1, PreL P l.toArray Q (l.drop n) a w1 → wpAny P .any l.toArray Q (l.drop n).length (listedN n 0 (Array.replicate l.length false)) a w1 := fun a w1 ⟨hE⟩ =>
    wpAny_of_quiet (Q := fun a' => ∀ w', (∃ x : Later w1, w' = x.w) → Q .normal a' w') (fun _ w' hw' h => h w' hw') _ _ _ _ ⟨⟨w1, Below.refl _ _⟩, rfl⟩
      (wpAnyQ_lex hs (l.drop n) n _ a (fun j => by simp) hB hE)
  have h2 := wpAny_pre (md := .any) n 0 (Array.replicate l.length false) (l.take n) a w.drew (l.drop n).length hK (by simp; omega) (fun j hj => by simp [hj]) hF h
  rw [List.length_drop, Nat.add_sub_cancel' hn] at h2
  simpa using h2
end
end Go.Proofs.Ytgannlbhhanflaa
