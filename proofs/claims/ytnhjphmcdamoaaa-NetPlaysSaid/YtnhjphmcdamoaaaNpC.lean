/-
  A drawn region with two calls that write, one behind the other: its steps. No program here.
-/
import Derived.Test.YtnhjphmcdamoaaaNpB
import Derived.Test.YtnhjphmcdamoaaaFx
import Derived.Test.YtnhjphmcdamoaaaGA
namespace Go.Proofs.Ytnhjphmcdamoaaa
set_option linter.unusedVariables false
set_option linter.unusedSimpArgs false
open Go.RowKit Go

/-- What the world is, by which of the calls p and q is listed. -/
structure Ph (n p q : Nat) (I A B : World → Prop) (listed : Array Bool) (w : World) : Prop where
  size : listed.size = n
  ord : listed.getD q false = true → listed.getD p false = true
  st : if listed.getD q false = true then B w else if listed.getD p false = true then A w else I w
section
variable {n p q : Nat} {I A B : World → Prop} {listed : Array Bool} {w : World}
theorem Ph.pass (h : Ph n p q I A B listed w) {i : Nat} (hp : i ≠ p) (hq : i ≠ q) : Ph n p q I A B (listed.setIfInBounds i true) w := by
  refine ⟨by simpa using h.size, ?_, ?_⟩
  · rw [getD_set_ne false hp, getD_set_ne false hq]; exact h.ord
  · rw [getD_set_ne false hp, getD_set_ne false hq]; exact h.st
theorem getD_flip {i : Nat} (h : listed.getD i true = false) : listed.getD i false = false ∧ i < listed.size := by
  rcases Nat.lt_or_ge i listed.size with h' | h'
  · simp [h'] at h ⊢; exact h
  · simp [Array.getElem?_eq_none h'] at h
theorem getD_now {i : Nat} (h : i < listed.size) : (listed.setIfInBounds i true).getD i false = true := by simp [h]
theorem Ph.atP (h : Ph n p q I A B listed w) (hpq : p ≠ q) (h5 : listed.getD p true = false) : I w ∧ ∀ w', A w' → Ph n p q I A B (listed.setIfInBounds p true) w' := by
  obtain ⟨h5, hs⟩ := getD_flip h5
  have hq : listed.getD q false = false := by
    cases hh : listed.getD q false with
    | false => rfl
    | true => rw [h.ord hh] at h5; cases h5
  refine ⟨?_, fun w' ha => ⟨by simpa using h.size, fun _ => getD_now hs, ?_⟩⟩
  · have := h.st; rw [hq, h5] at this; simpa using this
  · rw [getD_set_ne false hpq, hq, getD_now hs]; simpa using ha
theorem Ph.atQ (h : Ph n p q I A B listed w) (hpq : p ≠ q) (h5 : listed.getD p false = true) (h11 : listed.getD q true = false) : A w ∧ ∀ w', B w' → Ph n p q I A B (listed.setIfInBounds q true) w' := by
  obtain ⟨h11, hs⟩ := getD_flip h11
  refine ⟨?_, fun w' hb => ⟨by simpa using h.size, fun _ => by rw [getD_set_ne false (Ne.symm hpq)]; exact h5, ?_⟩⟩
  · have := h.st; rw [h11, h5] at this; simpa using this
  · rw [getD_now hs]; simpa using hb
theorem Ph.any (h : Ph n p q I A B listed w) : I w ∨ A w ∨ B w := by
  have := h.st
  split at this
  · exact .inr (.inr this)
  · split at this
    · exact .inr (.inl this)
    · exact .inl this
theorem Ph.done (h : Ph n p q I A B listed w) (hq : listed.getD q false = true) : B w := by have := h.st; rw [if_pos hq] at this; exact this
end
section
variable {P : Program} {ops : Array Oper} {n p q : Nat} {I A B : World → Prop} {E : List Value} {Q : Act → Prop} {i : Nat} {o : Oper} {rest : List Oper} {a : Act}
abbrev Fw (P : Program) (ops : Array Oper) (n p q : Nat) (I A B : World → Prop) (E : List Value) (Q : Act → Prop) (i : Nat) (l : List Oper) (a : Act) : Prop := wpFx P .any ops (Ph n p q I A B) (fun i => E[i]?) Q i l a
theorem fw_val (hw : Region.wanted o (yielded ops a.tmps) = true) (v : Value) (hE : E[i]? = some v) (hp : i ≠ p) (hq : i ≠ q) (hrun : ∀ w, I w ∨ A w ∨ B w → (execOp a.eval o).run P w = .ok (.value v) w) (h : Fw P ops n p q I A B E Q (i + 1) rest (a.put o.dst v)) : Fw P ops n p q I A B E Q i (o :: rest) a := by
  unfold Fw wpFx
  rw [if_pos hw]
  refine ⟨fun l _ w hC => ?_, fun u hu => ?_⟩
  · rw [hrun w hC.any]
    exact ⟨fun v' hv' => by simp only [hE] at hv'; cases hv'; rfl, hC.pass hp hq⟩
  · have := hu v hE
    subst this
    exact h
theorem fw_callP (hw : Region.wanted o (yielded ops a.tmps) = true) (f : FuncId) (args : Array Value) (v : Value) (hE : E[p]? = some v) (hpq : p ≠ q) (he : ∀ w, (execOp a.eval o).run P w = .ok (.enter f args) w) (c : ∀ w, I w → Calls P f args w fun e w' => e = .returned v ∧ A w') (h : Fw P ops n p q I A B E Q (p + 1) rest (a.put o.dst v)) : Fw P ops n p q I A B E Q p (o :: rest) a := by
  unfold Fw wpFx
  rw [if_pos hw]
  refine ⟨fun l hl w hC => ?_, fun u hu => ?_⟩
  · rw [he w]
    obtain ⟨hI, hA⟩ := hC.atP hpq (mem_ready.1 hl).1
    refine (c w hI).mono ?_
    rintro e w' ⟨rfl, ha⟩
    exact ⟨v, rfl, fun v' hv' => by simp only [hE] at hv'; cases hv'; rfl, hA w' ha⟩
  · have := hu v hE
    subst this
    exact h
theorem fw_callQ (hw : Region.wanted o (yielded ops a.tmps) = true) (f : FuncId) (args : Array Value) (v : Value) (hE : E[q]? = some v) (hpq : p ≠ q) (ho : ops[q]? = some o) (hk : needB o p = true) (he : ∀ w, (execOp a.eval o).run P w = .ok (.enter f args) w) (c : ∀ w, A w → Calls P f args w fun e w' => e = .returned v ∧ B w') (h : Fw P ops n p q I A B E Q (q + 1) rest (a.put o.dst v)) : Fw P ops n p q I A B E Q q (o :: rest) a := by
  unfold Fw wpFx
  rw [if_pos hw]
  refine ⟨fun l hl w hC => ?_, fun u hu => ?_⟩
  · rw [he w]
    obtain ⟨h0, o', ho', hall⟩ := mem_ready.1 hl
    rw [ho] at ho'
    cases ho'
    obtain ⟨e, he1, he2, he3⟩ := need_of hk
    obtain ⟨hI, hA⟩ := hC.atQ hpq (by rw [← he3]; exact hall e he1 he2) h0
    refine (c w hI).mono ?_
    rintro e w' ⟨rfl, ha⟩
    exact ⟨v, rfl, fun v' hv' => by simp only [hE] at hv'; cases hv'; rfl, hA w' ha⟩
  · have := hu v hE
    subst this
    exact h
end
/-- All wait for earlier ones. -/
def backB (ops : Array Oper) : Bool := (List.range ops.size).all fun i => ((ops[i]?).map fun o => o.after.toList.all fun e => !Region.binds .any e || decide (e.on < i)).getD true
theorem backB_out {ops : Array Oper} (h : backB ops = true) : ∀ i o, ops[i]? = some o → ∀ e ∈ o.after, Region.binds .any e = true → e.on < i := fun i o ho e he hb => by
  have hi : i < ops.size := (Array.getElem?_eq_some_iff.1 ho).1
  have h1 := List.all_eq_true.1 h i (List.mem_range.2 hi)
  rw [ho] at h1
  simp only [Option.map_some, Option.getD_some, List.all_eq_true, Bool.or_eq_true, Bool.not_eq_true', decide_eq_true_eq] at h1
  rcases h1 e (by simpa using he) with h2 | h2
  · rw [h2] at hb; cases hb
  · exact h2
theorem fw_region {P : Program} {id : Nat} {Q : Exit → Act → World → Prop} {a : Act} {w : World} {l : List Oper} (p q : Nat) (I A B : World → Prop) (E : List Value) (hm : P.follows .mixedOrders = true) (hB : Region.lexB .any l.toArray = true) (hk : backB l.toArray = true) (hq : q < l.length) (hI : I w.drew)
    (h : Fw P l.toArray l.length p q I A B E (fun a' => ∀ w', B w' → Q .normal a' w') 0 l a) : (Code.region id l.toArray true).wp P Q a w := by
  have hg : ∀ k, (Array.replicate l.length false).getD k false = false := fun k => by
    rw [Array.getD_eq_getD_getElem?, Array.getElem?_replicate]
    split <;> rfl
  refine wp_region_fx (T := fun i => E[i]?) (C := Ph l.length p q I A B) hm hB ⟨by simp, fun e => (by rw [hg] at e; cases e), by rw [hg, hg]; simpa using hI⟩ ?_
  have hmono : ∀ (l' : List Oper) (k : Nat) (a : Act), wpFx P .any l.toArray (Ph l.length p q I A B) (fun i => E[i]?) (fun a' => ∀ w', B w' → Q .normal a' w') k l' a → wpFx P .any l.toArray (Ph l.length p q I A B) (fun i => E[i]?) (fun a' => ∀ w' listed, Region.ready .any l.toArray listed = [] → Ph l.length p q I A B listed w' → Q .normal a' w') k l' a := by
    intro l'
    induction l' with
    | nil =>
      intro k a hh w' listed h0 hC
      have hl := hC.size
      exact hh w' (hC.done (all_listed (backB_out hk) h0 (q + 1) q (by omega) (by simpa using hq) (by omega)))
    | cons o r ih =>
      intro k a hh
      unfold wpFx at hh ⊢
      split
      · rename_i hw
        rw [if_pos hw] at hh
        exact ⟨hh.1, fun u hu => ih _ _ (hh.2 u hu)⟩
      · rename_i hw
        rw [if_neg hw] at hh
        exact ⟨hh.1, ih _ _ hh.2⟩
  exact hmono _ _ _ h
end Go.Proofs.Ytnhjphmcdamoaaa
