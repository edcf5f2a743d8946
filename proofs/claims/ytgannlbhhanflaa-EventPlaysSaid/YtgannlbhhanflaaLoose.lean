/-
  REGIONS THAT DRAW THEIR ORDER, SOME OF WHOSE VALUES STAND IN NO FIXED PLACE (a slice literal's address): ONE WALK, in the order of the text. No program here.
  After the kit's Derived/Deep/Quiet.lean: there each operation has ONE value in every world of the class. Here a table T says which values are fixed; of the others a relation R (value, world), which later worlds keep, is all that is known,
  and an operation may lean only on what is known of those that it waits for.
-/
import Derived.Test.YtgannlbhhanflaaBase
namespace Go.Proofs.Ytgannlbhhanflaa
set_option linter.unusedVariables false
set_option linter.unusedSimpArgs false
open Go.RowKit Go

section
variable {P : Program} {ops : Array Oper} {md : Region.Mode} {C : World → Prop} {T : Nat → Option Value} {R : Nat → Value → World → Prop}

/-- It waits for operation number k. -/
def Needs (md : Region.Mode) (o : Oper) (k : Nat) : Prop := ∃ e ∈ o.after, Region.binds md e = true ∧ e.on = k
/-- A value that operation number i may have. -/
def MayBe (T : Nat → Option Value) (i : Nat) (u : Value) : Prop := ∀ v, T i = some v → u = v
theorem mayBe_any (T : Nat → Option Value) (i : Nat) : ∃ u, MayBe T i u := by
  cases h : T i with
  | none => exact ⟨undef, fun v hv => by rw [h] at hv; cases hv⟩
  | some v => exact ⟨v, fun v' hv => by rw [h] at hv; cases hv; rfl⟩
/-- What is asked of an operation, carried out in the world w. -/
def LooseUpon (P : Program) (C : World → Prop) (T : Nat → Option Value) (R : Nat → Value → World → Prop) (i : Nat) (w : World) : Result Next → Prop
  | .ok (.value u) w' => MayBe T i u ∧ C w' ∧ Below w.heap.size w w' ∧ R i u w'
  | .ok (.enter f args) w' => Calls P f args w' fun e w'' => ∃ u, e = .returned u ∧ MayBe T i u ∧ C w'' ∧ Below w.heap.size w w'' ∧ R i u w''
  | _ => False
abbrev Known := Nat → Value → Prop
def Known.ins (i : Nat) (u : Value) (F : Known) : Known := fun j v => (j = i ∧ v = u) ∨ F j v
theorem Known.ins_comm (i j : Nat) (u v : Value) (F : Known) : (F.ins i u).ins j v = (F.ins j v).ins i u := by
  funext k x
  simp only [Known.ins, eq_iff_iff]
  constructor
  · rintro (h | h | h)
    · exact .inr (.inl h)
    · exact .inl h
    · exact .inr (.inr h)
  · rintro (h | h | h)
    · exact .inr (.inl h)
    · exact .inl h
    · exact .inr (.inr h)
def Ob (P : Program) (md : Region.Mode) (C : World → Prop) (T : Nat → Option Value) (R : Nat → Value → World → Prop) (i : Nat) (o : Oper) (a : Act) (F : Known) : Prop :=
  ∀ w, C w → (∀ k u, F k u → Needs md o k → R k u w) → LooseUpon P C T R i w ((execOp a.eval o).run P w)

/-- Operation number i comes up. -/
def lOp (P : Program) (md : Region.Mode) (ops : Array Oper) (C : World → Prop) (T : Nat → Option Value) (R : Nat → Value → World → Prop) (i : Nat) (K : Act → Known → Prop) (a : Act) (F : Known) : Prop :=
  match ops[i]? with
  | none => K a F
  | some o => if Region.wanted o (yielded ops a.tmps) then Ob P md C T R i o a F ∧ ∀ u, MayBe T i u → K (a.put o.dst u) (F.ins i u) else K (a.put o.dst undef) F
theorem lOp_mono {i : Nat} {a : Act} {F : Known} {K K' : Act → Known → Prop} (h : ∀ a F, K a F → K' a F) (hh : lOp P md ops C T R i K a F) : lOp P md ops C T R i K' a F := by
  unfold lOp at *
  split
  · exact h _ _ (by simpa [*] using hh)
  · rename_i o ho
    simp only [ho] at hh
    split
    · rename_i hw; simp only [hw, if_true] at hh; exact ⟨hh.1, fun u hu => h _ _ (hh.2 u hu)⟩
    · rename_i hw; simp only [hw] at hh; exact h _ _ hh

def wpAnyL (P : Program) (md : Region.Mode) (ops : Array Oper) (C : World → Prop) (T : Nat → Option Value) (R : Nat → Value → World → Prop) (Q : Act → Known → Prop) : Nat → Array Bool → Act → Known → Prop
  | 0, listed, a, F => Region.ready md ops listed = [] ∧ Q a F
  | fuel + 1, listed, a, F =>
    (Region.ready md ops listed = [] → Q a F) ∧
    ∀ i ∈ Region.ready md ops listed, lOp P md ops C T R i (wpAnyL P md ops C T R Q fuel (listed.setIfInBounds i true)) a F

theorem wpAny_of_loose {Q : Act → Known → Prop} {Q' : Exit → Act → World → Prop} (hR : ∀ i u w w', R i u w → Below w.heap.size w w' → R i u w') (hQ : ∀ a F w, C w → (∀ k u, F k u → R k u w) → Q a F → Q' .normal a w) :
    ∀ (fuel : Nat) (listed : Array Bool) (a : Act) (F : Known) (w : World), C w → (∀ k u, F k u → R k u w) → wpAnyL P md ops C T R Q fuel listed a F → wpAny P md ops Q' fuel listed a w
  | 0, _, _, _, _, hw, hF, h => ⟨h.1, hQ _ _ _ hw hF h.2⟩
  | fuel + 1, listed, a, F, w, hw, hF, h => by
    refine ⟨fun h0 => hQ _ _ _ hw hF (h.1 h0), fun i hi => ?_⟩
    have h1 := h.2 i hi
    unfold lOp at h1
    unfold wpOp
    split
    · rename_i ho; simp only [ho] at h1; exact wpAny_of_loose hR hQ fuel _ _ _ _ hw hF h1
    · rename_i o ho
      simp only [ho] at h1
      split
      · rename_i hwant
        simp only [hwant, if_true] at h1
        obtain ⟨hob, hk⟩ := h1
        have h2 := hob w hw fun k u hku _ => hF k u hku
        have hins : ∀ u w', Below w.heap.size w w' → R i u w' → ∀ k v, (F.ins i u) k v → R k v w' := fun u w' hb hr k v hkv => by
          rcases hkv with ⟨rfl, rfl⟩ | hkv
          · exact hr
          · exact hR _ _ _ _ (hF k v hkv) hb
        refine .inl ?_
        unfold Oper.wp
        generalize (execOp a.eval o).run P w = r at h2
        cases r with
        | ok n w' =>
          cases n <;> simp only [LooseUpon] at h2 <;> simp only [Oper.upon]
          case value u =>
            obtain ⟨hm, hc, hb, hr⟩ := h2
            exact wpAny_of_loose hR hQ fuel _ _ _ _ hc (hins u w' hb hr) (hk u hm)
          case enter f args =>
            refine h2.mono fun e w'' ⟨u, he, hm, hc, hb, hr⟩ => ?_
            subst he
            exact wpAny_of_loose hR hQ fuel _ _ _ _ hc (hins u w'' hb hr) (hk u hm)
        | halt x w' => simp only [LooseUpon] at h2
      · rename_i hwant
        simp only [hwant] at h1
        exact wpAny_of_loose hR hQ fuel _ _ _ _ hw hF h1

theorem wpAnyL_first {Q : Act → Known → Prop} {i : Nat} {oi : Oper} (hi : ops[i]? = some oi) (hsel : ∀ (j : Nat) (o : Oper) cs b, ops[j]? = some o → o.op ≠ .select cs b) :
    ∀ (fuel : Nat) (listed : Array Bool) (a : Act) (F : Known),
      (∀ j oj, ops[j]? = some oj → j ≠ i → listed.getD j true = false → (∀ e ∈ oj.after, Region.binds md e = true → e.on ≠ i) → oi.apart ops oj = true) →
      i ∈ Region.ready md ops listed → lOp P md ops C T R i (wpAnyL P md ops C T R Q fuel (listed.setIfInBounds i true)) a F → wpAnyL P md ops C T R Q (fuel + 1) listed a F := by
  intro fuel
  induction fuel with
  | zero =>
    intro listed a F _ hr H
    refine ⟨fun h => (by rw [h] at hr; cases hr), fun j hj => ?_⟩
    by_cases hji : j = i
    · subst hji; exact H
    · have h1 := ready_mono hj hji
      have h2 : Region.ready md ops (listed.setIfInBounds i true) = [] := by
        unfold lOp at H
        simp only [hi] at H
        split at H
        · obtain ⟨u, hu⟩ := mayBe_any T i; exact (H.2 u hu).1
        · exact H.1
      rw [h2] at h1
      cases h1
  | succ fuel ih =>
    intro listed a F hfree hr H
    refine ⟨fun h => (by rw [h] at hr; cases hr), fun j hj => ?_⟩
    by_cases hji : j = i
    · subst hji; exact H
    obtain ⟨hjun, oj, hoj, hall⟩ := mem_ready.1 hj
    have hnot : ∀ e ∈ oj.after, Region.binds md e = true → e.on ≠ i := fun e he hb heq => by
      have h1 := hall e he hb
      have h0 := (mem_ready.1 hr).1
      rw [heq] at h1
      rcases Nat.lt_or_ge i listed.size with h' | h'
      · simp [h'] at h0 h1; rw [h0] at h1; cases h1
      · simp [Array.getElem?_eq_none h'] at h1
    have hneed : ¬ Needs md oj i := fun ⟨e, he, hb, heq⟩ => hnot e he hb heq
    have hap := hfree j oj hoj hji hjun hnot
    obtain ⟨p1, p2, p3⟩ := Oper.apart_spec hap
    have hsi := fun cs b => hsel i oi cs b hi
    have hsj := fun cs b => hsel j oj cs b hoj
    have hfree' : ∀ k ok, ops[k]? = some ok → k ≠ i → (listed.setIfInBounds j true).getD k true = false →
        (∀ e ∈ ok.after, Region.binds md e = true → e.on ≠ i) → oi.apart ops ok = true := fun k ok hk hki hun hno => by
      refine hfree k ok hk hki ?_ hno
      by_cases hjk : j = k
      · subst hjk; exact hjun
      · rw [getD_set_ne true hjk] at hun; exact hun
    have hcomm : (listed.setIfInBounds i true).setIfInBounds j true = (listed.setIfInBounds j true).setIfInBounds i true := Array.setIfInBounds_comm _ _ (Ne.symm hji)
    have hrj := ready_mono hj hji
    have hri := ready_mono hr (Ne.symm hji)
    -- what comes of the other one, taken behind this one
    have obj : ∀ u, ∀ F', (∀ k v, F' k v → k = i ∨ F k v) → Ob P md C T R j oj (a.put oi.dst u) F' → Ob P md C T R j oj a F := fun u F' hF' h w hw hf => by
      have := h w hw fun k v hk hn => by
        rcases hF' k v hk with rfl | hk
        · exact absurd hn hneed
        · exact hf k v hk hn
      rwa [execOp_put oj hsj a oi.dst u p1] at this
    have obi : ∀ u F', (∀ k v, F k v → F' k v) → Ob P md C T R i oi a F → Ob P md C T R i oi (a.put oj.dst u) F' := fun u F' hF' h w hw hf => by
      rw [execOp_put oi hsi a oj.dst u p3]
      exact h w hw fun k v hk hn => hf k v (hF' k v hk) hn
    have hinsj : ∀ u k v, F k v → (F.ins j u) k v := fun u k v h => .inr h
    have hinsi : ∀ u k v, (F.ins i u) k v → k = i ∨ F k v := fun u k v h => h.imp And.left id
    unfold lOp at H
    simp only [hi] at H
    unfold lOp
    simp only [hoj]
    split at H
    · rename_i hwi
      obtain ⟨hOi, HK⟩ := H
      have HJ : ∀ u, MayBe T i u → _ := fun u hu => (HK u hu).2 j hrj
      unfold lOp at HJ
      simp only [hoj, wanted_put oj a oi.dst _ p1, hcomm] at HJ
      split
      · rename_i hwj
        simp only [hwj, if_true] at HJ
        obtain ⟨u0, hu0⟩ := mayBe_any T i
        refine ⟨obj u0 _ (hinsi u0) (HJ u0 hu0).1, fun uj huj => ih _ _ _ hfree' hri ?_⟩
        unfold lOp
        simp only [hi, wanted_put oi a oj.dst uj p3, hwi, if_true]
        refine ⟨obi uj _ (hinsj uj) hOi, fun ui hui => ?_⟩
        have := (HJ ui hui).2 uj huj
        rw [Act.put_comm a ui uj p2, Known.ins_comm] at this
        exact this
      · rename_i hwj
        simp only [hwj] at HJ
        refine ih _ _ _ hfree' hri ?_
        unfold lOp
        simp only [hi, wanted_put oi a oj.dst undef p3, hwi, if_true]
        refine ⟨obi undef _ (fun k v h => h) hOi, fun ui hui => ?_⟩
        have := HJ ui hui
        simp only [Bool.false_eq_true, if_false] at this
        rw [Act.put_comm a ui undef p2] at this
        exact this
    · rename_i hwi
      have HJ := H.2 j hrj
      unfold lOp at HJ
      simp only [hoj, wanted_put oj a oi.dst _ p1, hcomm] at HJ
      split
      · rename_i hwj
        simp only [hwj, if_true] at HJ
        refine ⟨obj undef _ (fun k v h => .inr h) HJ.1, fun uj huj => ih _ _ _ hfree' hri ?_⟩
        unfold lOp
        simp only [hi, wanted_put oi a oj.dst uj p3, hwi]
        have := HJ.2 uj huj
        rw [Act.put_comm a undef uj p2] at this
        exact this
      · rename_i hwj
        simp only [hwj] at HJ
        refine ih _ _ _ hfree' hri ?_
        unfold lOp
        simp only [hi, wanted_put oi a oj.dst undef p3, hwi]
        simp only [Bool.false_eq_true, if_false] at HJ ⊢
        rw [Act.put_comm a undef undef p2] at HJ
        exact HJ

/-- THE WALK, in the order of the text. -/
def wpLoose (P : Program) (md : Region.Mode) (ops : Array Oper) (C : World → Prop) (T : Nat → Option Value) (R : Nat → Value → World → Prop) (Q : Act → Known → Prop) : Nat → List Oper → Act → Known → Prop
  | _, [], a, F => Q a F
  | i, o :: rest, a, F => if Region.wanted o (yielded ops a.tmps) then Ob P md C T R i o a F ∧ ∀ u, MayBe T i u → wpLoose P md ops C T R Q (i + 1) rest (a.put o.dst u) (F.ins i u) else wpLoose P md ops C T R Q (i + 1) rest (a.put o.dst undef) F

theorem wpAnyL_lex {Q : Act → Known → Prop} (hs : Region.noSelect ops = true) : ∀ (l : List Oper) (k : Nat) (listed : Array Bool) (a : Act) (F : Known), (∀ j, l[j]? = ops[k + j]?) →
    Region.lexFrom md ops l.length k listed = true → wpLoose P md ops C T R Q k l a F → wpAnyL P md ops C T R Q l.length listed a F
  | [], _, _, _, _, _, hB, h => ⟨by simpa [Region.lexFrom] using hB, h⟩
  | o :: l, k, listed, a, F, hl, hB, h => by
    have h0 : ops[k]? = some o := by simpa using (hl 0).symm
    simp only [List.length_cons, Region.lexFrom, Bool.and_eq_true] at hB
    obtain ⟨⟨hr, hf⟩, hB'⟩ := hB
    refine wpAnyL_first h0 (Region.noSelect_spec hs) l.length listed a F (Region.free_spec h0 hf) (by simpa using hr) ?_
    have hst : lOp P md ops C T R k (wpLoose P md ops C T R Q (k + 1) l) a F := by unfold lOp; simp only [h0]; exact h
    exact lOp_mono (fun a F h => wpAnyL_lex hs l (k + 1) _ _ _ (fun j => by have := hl (j + 1); simpa [Nat.add_assoc, Nat.add_comm 1 j] using this) hB' h) hst

theorem wp_region_loose {id : Nat} {Q : Exit → Act → World → Prop} {a : Act} {w : World} {l : List Oper} (T : Nat → Option Value) (R : Nat → Value → World → Prop) (C : World → Prop)
    (hm : P.follows .mixedOrders = true) (hB : Region.lexB .any l.toArray = true) (hC : C w.drew) (hR : ∀ i u w w', R i u w → Below w.heap.size w w' → R i u w')
    (h : wpLoose P .any l.toArray C T R (fun a' _ => ∀ w', C w' → Q .normal a' w') 0 l a fun _ _ => False) : (Code.region id l.toArray true).wp P Q a w := by
  simp only [Region.lexB, Bool.and_eq_true] at hB
  refine wp_region_any hm (wpAny_of_loose (T := T) (Q := fun a' _ => ∀ w', C w' → Q .normal a' w') hR (fun _ _ w' hw' _ h => h w' hw') _ _ _ (fun _ _ => False) _ hC (fun _ _ h => False.elim h) ?_)
  have := wpAnyL_lex (P := P) (C := C) (T := T) (R := R) (md := .any) hB.1 l 0 (Array.replicate l.length false) a (fun _ _ => False) (by simp) (by simpa using hB.2) h
  simpa using this
theorem wp_region_looseF {id : Nat} {Q : Exit → Act → World → Prop} {a : Act} {w : World} {l : List Oper} (T : Nat → Option Value) (R : Nat → Value → World → Prop) (C : World → Prop)
    (hm : P.follows .mixedOrders = true) (hB : Region.lexB .any l.toArray = true) (hC : C w.drew) (hR : ∀ i u w w', R i u w → Below w.heap.size w w' → R i u w')
    (h : wpLoose P .any l.toArray C T R (fun a' F' => ∀ w', C w' → (∀ k u, F' k u → R k u w') → Q .normal a' w') 0 l a fun _ _ => False) : (Code.region id l.toArray true).wp P Q a w := by
  simp only [Region.lexB, Bool.and_eq_true] at hB
  refine wp_region_any hm (wpAny_of_loose (T := T) (Q := fun a' F' => ∀ w', C w' → (∀ k u, F' k u → R k u w') → Q .normal a' w') hR (fun _ F w' hw' hF h => h w' hw' hF) _ _ _ (fun _ _ => False) _ hC (fun _ _ h => False.elim h) ?_)
  have := wpAnyL_lex (P := P) (C := C) (T := T) (R := R) (md := .any) hB.1 l 0 (Array.replicate l.length false) a (fun _ _ => False) (by simp) (by simpa using hB.2) h
  simpa using this
theorem loose_want {Q : Act → Known → Prop} {i : Nat} {o : Oper} {rest : List Oper} {a : Act} {F : Known} (hw : Region.wanted o (yielded ops a.tmps) = true) (h1 : Ob P md C T R i o a F)
    (h2 : ∀ u, MayBe T i u → wpLoose P md ops C T R Q (i + 1) rest (a.put o.dst u) (F.ins i u)) : wpLoose P md ops C T R Q i (o :: rest) a F := by
  unfold wpLoose; rw [if_pos hw]; exact ⟨h1, h2⟩
end
end Go.Proofs.Ytgannlbhhanflaa
