/-
  REGIONS THAT DRAW THEIR ORDER, WITH CALLS THAT WRITE: ONE WALK, in the order of the text, where each operation has one value, and the world's class depends on what is listed. No program here. After Loose.
-/
import Derived.Test.YtnhjphmcdamoaaaGA
namespace Go.Proofs.Ytnhjphmcdamoaaa
set_option linter.unusedVariables false
set_option linter.unusedSimpArgs false
open Go.RowKit Go

section
variable {P : Program} {ops : Array Oper} {md : Region.Mode} {C : Array Bool → World → Prop} {T : Nat → Option Value}

def FxUpon (P : Program) (C' : World → Prop) (T : Nat → Option Value) (i : Nat) : Result Next → Prop
  | .ok (.value u) w' => MayBe T i u ∧ C' w'
  | .ok (.enter f args) w' => Calls P f args w' fun e w'' => ∃ u, e = .returned u ∧ MayBe T i u ∧ C' w''
  | _ => False
/-- What is asked of operation number i: wherever it is ready. -/
def ObF (P : Program) (md : Region.Mode) (ops : Array Oper) (C : Array Bool → World → Prop) (T : Nat → Option Value) (i : Nat) (o : Oper) (a : Act) : Prop :=
  ∀ listed, i ∈ Region.ready md ops listed → ∀ w, C listed w → FxUpon P (C (listed.setIfInBounds i true)) T i ((execOp a.eval o).run P w)
def PassF (md : Region.Mode) (ops : Array Oper) (C : Array Bool → World → Prop) (i : Nat) : Prop := ∀ listed, i ∈ Region.ready md ops listed → ∀ w, C listed w → C (listed.setIfInBounds i true) w
def fOp (P : Program) (md : Region.Mode) (ops : Array Oper) (C : Array Bool → World → Prop) (T : Nat → Option Value) (i : Nat) (K : Act → Prop) (a : Act) : Prop :=
  match ops[i]? with
  | none => K a
  | some o => if Region.wanted o (yielded ops a.tmps) then ObF P md ops C T i o a ∧ ∀ u, MayBe T i u → K (a.put o.dst u) else PassF md ops C i ∧ K (a.put o.dst undef)
theorem fOp_mono {i : Nat} {a : Act} {K K' : Act → Prop} (h : ∀ a, K a → K' a) (hh : fOp P md ops C T i K a) : fOp P md ops C T i K' a := by
  unfold fOp at *
  split
  · exact h _ (by simpa [*] using hh)
  · rename_i o ho
    simp only [ho] at hh
    split
    · rename_i hw; simp only [hw, if_true] at hh; exact ⟨hh.1, fun u hu => h _ (hh.2 u hu)⟩
    · rename_i hw; simp only [hw] at hh; exact ⟨hh.1, h _ hh.2⟩
def wpAnyF (P : Program) (md : Region.Mode) (ops : Array Oper) (C : Array Bool → World → Prop) (T : Nat → Option Value) (Q : Act → Prop) : Nat → Array Bool → Act → Prop
  | 0, listed, a => Region.ready md ops listed = [] ∧ Q a
  | fuel + 1, listed, a =>
    (Region.ready md ops listed = [] → Q a) ∧
    ∀ i ∈ Region.ready md ops listed, fOp P md ops C T i (wpAnyF P md ops C T Q fuel (listed.setIfInBounds i true)) a
theorem wpAny_of_fx {Q : Act → Prop} {Q' : Exit → Act → World → Prop} (hQ : ∀ a w listed, Region.ready md ops listed = [] → C listed w → Q a → Q' .normal a w) :
    ∀ (fuel : Nat) (listed : Array Bool) (a : Act) (w : World), C listed w → wpAnyF P md ops C T Q fuel listed a → wpAny P md ops Q' fuel listed a w
  | 0, _, _, _, hw, h => ⟨h.1, hQ _ _ _ h.1 hw h.2⟩
  | fuel + 1, listed, a, w, hw, h => by
    refine ⟨fun h0 => hQ _ _ _ h0 hw (h.1 h0), fun i hi => ?_⟩
    have h1 := h.2 i hi
    obtain ⟨_, o, ho, _⟩ := mem_ready.1 hi
    unfold fOp at h1
    unfold wpOp
    simp only [ho] at h1 ⊢
    split
    · rename_i hwant
      simp only [hwant, if_true] at h1
      obtain ⟨hob, hk⟩ := h1
      have h2 := hob listed hi w hw
      refine .inl ?_
      unfold Oper.wp
      generalize (execOp a.eval o).run P w = r at h2
      cases r with
      | ok n w' =>
        cases n <;> simp only [FxUpon] at h2 <;> simp only [Oper.upon]
        case value u => exact wpAny_of_fx hQ fuel _ _ _ h2.2 (hk u h2.1)
        case enter f args =>
          refine h2.mono fun e w'' ⟨u, he, hm, hc⟩ => ?_
          subst he
          exact wpAny_of_fx hQ fuel _ _ _ hc (hk u hm)
      | halt x w' => simp only [FxUpon] at h2
    · rename_i hwant
      simp only [hwant] at h1
      exact wpAny_of_fx hQ fuel _ _ _ (h1.1 listed hi w hw) h1.2
theorem wpAnyF_first {Q : Act → Prop} {i : Nat} {oi : Oper} (hi : ops[i]? = some oi) (hsel : ∀ (j : Nat) (o : Oper) cs b, ops[j]? = some o → o.op ≠ .select cs b) :
    ∀ (fuel : Nat) (listed : Array Bool) (a : Act),
      (∀ j oj, ops[j]? = some oj → j ≠ i → listed.getD j true = false → (∀ e ∈ oj.after, Region.binds md e = true → e.on ≠ i) → oi.apart ops oj = true) →
      i ∈ Region.ready md ops listed → fOp P md ops C T i (wpAnyF P md ops C T Q fuel (listed.setIfInBounds i true)) a → wpAnyF P md ops C T Q (fuel + 1) listed a := by
  intro fuel
  induction fuel with
  | zero =>
    intro listed a _ hr H
    refine ⟨fun h => (by rw [h] at hr; cases hr), fun j hj => ?_⟩
    by_cases hji : j = i
    · subst hji; exact H
    · have h1 := ready_mono hj hji
      have h2 : Region.ready md ops (listed.setIfInBounds i true) = [] := by
        unfold fOp at H
        simp only [hi] at H
        split at H
        · obtain ⟨u, hu⟩ := mayBe_any T i; exact (H.2 u hu).1
        · exact H.2.1
      rw [h2] at h1
      cases h1
  | succ fuel ih =>
    intro listed a hfree hr H
    refine ⟨fun h => (by rw [h] at hr; cases hr), fun j hj => ?_⟩
    by_cases hji : j = i
    · subst hji; exact H
    obtain ⟨hjun, oj, hoj, hall⟩ := mem_ready.1 hj
    have hnot : ∀ e ∈ oj.after, Region.binds md e = true → e.on ≠ i := fun e he hb heq => by
      have h1 := hall e he hb
      have h0 := (mem_ready.1 hr).1
      rw [heq] at h1
      rcases Nat.lt_or_ge i listed.size with h' | h'
      · simp [h'] at h0 h1; rw [h0] at h1; cases h1
      · simp [Array.getElem?_eq_none h'] at h1
    have hap := hfree j oj hoj hji hjun hnot
    obtain ⟨p1, p2, p3⟩ := Oper.apart_spec hap
    have hsi := fun cs b => hsel i oi cs b hi
    have hsj := fun cs b => hsel j oj cs b hoj
    have hfree' : ∀ k ok, ops[k]? = some ok → k ≠ i → (listed.setIfInBounds j true).getD k true = false →
        (∀ e ∈ ok.after, Region.binds md e = true → e.on ≠ i) → oi.apart ops ok = true := fun k ok hk hki hun hno => by
      refine hfree k ok hk hki ?_ hno
      by_cases hjk : j = k
      · subst hjk; exact hjun
      · rw [getD_set_ne true hjk] at hun; exact hun
    have hcomm : (listed.setIfInBounds i true).setIfInBounds j true = (listed.setIfInBounds j true).setIfInBounds i true := Array.setIfInBounds_comm _ _ (Ne.symm hji)
    have hrj := ready_mono hj hji
    have hri := ready_mono hr (Ne.symm hji)
    have obj : ∀ u, ObF P md ops C T j oj (a.put oi.dst u) → ObF P md ops C T j oj a := fun u h l hl w hw => by
      have := h l hl w hw
      rwa [execOp_put oj hsj a oi.dst u p1] at this
    have obi : ∀ u, ObF P md ops C T i oi a → ObF P md ops C T i oi (a.put oj.dst u) := fun u h l hl w hw => by
      rw [execOp_put oi hsi a oj.dst u p3]
      exact h l hl w hw
    unfold fOp at H
    simp only [hi] at H
    unfold fOp
    simp only [hoj]
    split at H
    · rename_i hwi
      obtain ⟨hOi, HK⟩ := H
      have HJ : ∀ u, MayBe T i u → _ := fun u hu => (HK u hu).2 j hrj
      unfold fOp at HJ
      simp only [hoj, wanted_put oj a oi.dst _ p1, hcomm] at HJ
      split
      · rename_i hwj
        simp only [hwj, if_true] at HJ
        obtain ⟨u0, hu0⟩ := mayBe_any T i
        refine ⟨obj u0 (HJ u0 hu0).1, fun uj huj => ih _ _ hfree' hri ?_⟩
        unfold fOp
        simp only [hi, wanted_put oi a oj.dst uj p3, hwi, if_true]
        refine ⟨obi uj hOi, fun ui hui => ?_⟩
        have := (HJ ui hui).2 uj huj
        rw [Act.put_comm a ui uj p2] at this
        exact this
      · rename_i hwj
        simp only [hwj] at HJ
        obtain ⟨u0, hu0⟩ := mayBe_any T i
        refine ⟨(HJ u0 hu0).1, ih _ _ hfree' hri ?_⟩
        unfold fOp
        simp only [hi, wanted_put oi a oj.dst undef p3, hwi, if_true]
        refine ⟨obi undef hOi, fun ui hui => ?_⟩
        have := (HJ ui hui).2
        rw [Act.put_comm a ui undef p2] at this
        exact this
    · rename_i hwi
      have HJ := H.2.2 j hrj
      unfold fOp at HJ
      simp only [hoj, wanted_put oj a oi.dst _ p1, hcomm] at HJ
      split
      · rename_i hwj
        simp only [hwj, if_true] at HJ
        refine ⟨obj undef HJ.1, fun uj huj => ih _ _ hfree' hri ?_⟩
        unfold fOp
        simp only [hi, wanted_put oi a oj.dst uj p3, hwi]
        have := HJ.2 uj huj
        rw [Act.put_comm a undef uj p2] at this
        exact ⟨H.1, this⟩
      · rename_i hwj
        simp only [hwj] at HJ
        refine ⟨HJ.1, ih _ _ hfree' hri ?_⟩
        unfold fOp
        simp only [hi, wanted_put oi a oj.dst undef p3, hwi]
        have := HJ.2
        rw [Act.put_comm a undef undef p2] at this
        exact ⟨H.1, this⟩
/-- THE WALK, in the order of the text. -/
def wpFx (P : Program) (md : Region.Mode) (ops : Array Oper) (C : Array Bool → World → Prop) (T : Nat → Option Value) (Q : Act → Prop) : Nat → List Oper → Act → Prop
  | _, [], a => Q a
  | i, o :: rest, a => if Region.wanted o (yielded ops a.tmps) then ObF P md ops C T i o a ∧ ∀ u, MayBe T i u → wpFx P md ops C T Q (i + 1) rest (a.put o.dst u) else PassF md ops C i ∧ wpFx P md ops C T Q (i + 1) rest (a.put o.dst undef)
theorem wpAnyF_lex {Q : Act → Prop} (hs : Region.noSelect ops = true) : ∀ (l : List Oper) (k : Nat) (listed : Array Bool) (a : Act), (∀ j, l[j]? = ops[k + j]?) →
    Region.lexFrom md ops l.length k listed = true → wpFx P md ops C T Q k l a → wpAnyF P md ops C T Q l.length listed a
  | [], _, _, _, _, hB, h => ⟨by simpa [Region.lexFrom] using hB, h⟩
  | o :: l, k, listed, a, hl, hB, h => by
    have h0 : ops[k]? = some o := by simpa using (hl 0).symm
    simp only [List.length_cons, Region.lexFrom, Bool.and_eq_true] at hB
    obtain ⟨⟨hr, hf⟩, hB'⟩ := hB
    refine wpAnyF_first h0 (Region.noSelect_spec hs) l.length listed a (Region.free_spec h0 hf) (by simpa using hr) ?_
    have hst : fOp P md ops C T k (wpFx P md ops C T Q (k + 1) l) a := by unfold fOp; simp only [h0]; exact h
    exact fOp_mono (fun a h => wpAnyF_lex hs l (k + 1) _ _ (fun j => by have := hl (j + 1); simpa [Nat.add_assoc, Nat.add_comm 1 j] using this) hB' h) hst
theorem wp_region_fx {id : Nat} {Q : Exit → Act → World → Prop} {a : Act} {w : World} {l : List Oper} (T : Nat → Option Value) (C : Array Bool → World → Prop)
    (hm : P.follows .mixedOrders = true) (hB : Region.lexB .any l.toArray = true) (hC : C (Array.replicate l.length false) w.drew)
    (h : wpFx P .any l.toArray C T (fun a' => ∀ w' listed, Region.ready .any l.toArray listed = [] → C listed w' → Q .normal a' w') 0 l a) : (Code.region id l.toArray true).wp P Q a w := by
  simp only [Region.lexB, Bool.and_eq_true] at hB
  refine wp_region_any hm (wpAny_of_fx (T := T) (C := C) (Q := fun a' => ∀ w' listed, Region.ready .any l.toArray listed = [] → C listed w' → Q .normal a' w') (fun _ w' li h0 hw' h => h w' li h0 hw') _ _ _ _ hC ?_)
  have := wpAnyF_lex (P := P) (C := C) (T := T) (md := .any) hB.1 l 0 (Array.replicate l.length false) a (by simp) (by simpa using hB.2) h
  simpa using this
/-- Where each waits for earlier ones alone, and none is ready, all are listed. -/
theorem all_listed {listed : Array Bool} (hd : ∀ i o, ops[i]? = some o → ∀ e ∈ o.after, Region.binds md e = true → e.on < i) (h0 : Region.ready md ops listed = []) : ∀ n i, i < n → i < ops.size → i < listed.size → listed.getD i false = true
  | 0, _, h, _, _ => by omega
  | n + 1, i, h, hi, hl => by
    by_cases hc : listed.getD i false = true
    · exact hc
    · exfalso
      have hr : i ∈ Region.ready md ops listed := mem_ready.2 ⟨by simp [hl] at hc ⊢; exact hc, ops[i], Array.getElem?_eq_getElem hi, fun e he hb => by
        have h1 := hd i _ (Array.getElem?_eq_getElem hi) e he hb
        exact all_listed hd h0 n e.on (by omega) (by omega) (by omega)⟩
      rw [h0] at hr
      cases hr
end
end Go.Proofs.Ytnhjphmcdamoaaa
