/-
  A region that draws its order: reads and quiet calls in any order, then operations that can come in one order alone. No program here.
  REGIONS THAT DRAW THEIR ORDER: reads first in the text, then operations whose values are known by a predicate alone (a call's answer, a new block), and which may store into what the region made. ONE WALK, in the order of the text. No program here. After Loose and the kit's Quiet.
  A region that draws its order: reads and quiet calls in any order, then operations that can come in one order alone, then reads. No program here.
  A region that draws its order: reads, then operations whose values are known by a predicate, then a forced tail. No program here.
-/
import Derived.Test.YtgbbhkdaalnchaaGA
namespace Go.Proofs.Ytgbbhkdaalnchaa
set_option linter.unusedVariables false
set_option linter.unusedSimpArgs false
open Go.RowKit Go

section
variable {P : Program} {Q : Exit → Act → World → Prop}
theorem wp_region_quietTail {id : Nat} {a : Act} {w : World} {l : List Oper} (n : Nat) (hm : P.follows .mixedOrders = true) (hn : n ≤ l.length) (hT : postB .any l.toArray n = true)
    (hB : Region.lexB .any (l.take n).toArray = true) (hF : forcedB .any l.toArray (l.drop n).length n (listedN n 0 (Array.replicate l.length false)) = true)
    (hE : (Region.ready .any l.toArray (listedN (l.drop n).length n (listedN n 0 (Array.replicate l.length false)))).isEmpty = true)
    (h : wpQuiet P (l.take n).toArray (fun w' => ∃ m, w' = w.drewN m) (fun a' => ∀ w', (∃ m, w' = w.drewN m) → wpList P l.toArray Q (l.drop n) a' w') (l.take n) a) : (Code.region id l.toArray true).wp P Q a w := by
  refine wp_region_any hm ?_
  simp only [Region.lexB, Bool.and_eq_true] at hB
  have hK : ∀ a w, wpList P l.toArray Q (l.drop n) a w → wpAny P .any l.toArray Q (l.drop n).length (listedN n 0 (Array.replicate l.length false)) a w := fun a w hh => by
    have h2 := wpAny_pre (P := P) (md := .any) (Q := Q) (K := fun a w => Q .normal a w) (l.drop n).length n (listedN n 0 (Array.replicate l.length false)) (l.drop n) a w 0
      (fun a w hq => ⟨by simpa using hE, hq⟩) rfl (fun j _ => by simp) hF (by rw [preQ_self]; exact hh)
    exact h2
  have hL := wpAnyQ_lex (P := P) (C := fun w' => ∃ m, w' = w.drewN m) (md := .any) hB.1 (l.take n) 0 (Array.replicate (l.take n).length false) a (by simp) (by simpa using hB.2) h
  have h1 : wpAny P .any (l.take n).toArray (preQ Q (fun a w => wpList P l.toArray Q (l.drop n) a w)) (l.take n).length (Array.replicate (l.take n).length false) a w.drew :=
    wpAny_of_quiet (Q := fun a' => ∀ w', (∃ m, w' = w.drewN m) → wpList P l.toArray Q (l.drop n) a' w') (fun _ w' hw' hh => hh w' hw') _ _ _ _ ⟨1, rfl⟩ hL
  have hn2 : (l.take n).length = n := by simp; omega
  have h3 := wpAny_trunc (n := n) (m := (l.drop n).length) hn hT hK (l.take n).length (Array.replicate (l.take n).length false) (Array.replicate l.length false) a w.drew (by simp; omega) (by simp)
    (fun i hi => by
      rw [rep_getD, rep_getD]) (fun i _ => rep_getD _ _) (fun j o _ hj => by rw [rep_getD] at hj; cases hj) (by simp) h1
  have e : (l.take n).length + (l.drop n).length = l.length := by rw [← List.length_append, List.take_append_drop]
  rw [e] at h3
  simpa using h3
end
end Go.Proofs.Ytgbbhkdaalnchaa
namespace Go.Proofs.Ytgbbhkdaalnchaa
set_option linter.unusedVariables false
set_option linter.unusedSimpArgs false
open Go.RowKit Go

/-- What is known of an operation's value: by itself, and in the world; the second is kept by later steps. -/
structure Pe (S : World → World → Prop) where
  m : Value → Prop
  r : Value → World → Prop
  ex : ∃ u, m u
  st : ∀ u w w', r u w → S w w' → r u w'
section
variable {P : Program} {ops : Array Oper} {md : Region.Mode} {C : World → Prop} {S : World → World → Prop} {M : Nat → Value → Prop} {R : Nat → Value → World → Prop}
/-- What is asked of an operation, carried out in the world w. -/
def LsUpon (P : Program) (C : World → Prop) (S : World → World → Prop) (m : Value → Prop) (r : Value → World → Prop) (w : World) : Result Next → Prop
  | .ok (.value u) w' => m u ∧ C w' ∧ S w w' ∧ r u w'
  | .ok .skip w' => m undef ∧ C w' ∧ S w w' ∧ r undef w'
  | .ok (.enter f args) w' => Calls P f args w' fun e w'' => ∃ u, e = .returned u ∧ m u ∧ C w'' ∧ S w w'' ∧ r u w''
  | _ => False
def LsOb (P : Program) (md : Region.Mode) (C : World → Prop) (S : World → World → Prop) (M : Nat → Value → Prop) (R : Nat → Value → World → Prop) (i : Nat) (o : Oper) (a : Act) (F : Known) : Prop :=
  ∀ w, C w → (∀ k u, F k u → Needs md o k → R k u w) → LsUpon P C S (M i) (R i) w ((execOp a.eval o).run P w)

/-- Operation number i comes up. -/
def lsOp (P : Program) (md : Region.Mode) (ops : Array Oper) (C : World → Prop) (S : World → World → Prop) (M : Nat → Value → Prop) (R : Nat → Value → World → Prop) (i : Nat) (K : Act → Known → Prop) (a : Act) (F : Known) : Prop :=
  match ops[i]? with
  | none => K a F
  | some o => if Region.wanted o (yielded ops a.tmps) then LsOb P md C S M R i o a F ∧ ∀ u, M i u → K (a.put o.dst u) (F.ins i u) else K (a.put o.dst undef) F
theorem lsOp_mono {i : Nat} {a : Act} {F : Known} {K K' : Act → Known → Prop} (h : ∀ a F, K a F → K' a F) (hh : lsOp P md ops C S M R i K a F) : lsOp P md ops C S M R i K' a F := by
  unfold lsOp at *
  split
  · exact h _ _ (by simpa [*] using hh)
  · rename_i o ho
    simp only [ho] at hh
    split
    · rename_i hw; simp only [hw, if_true] at hh; exact ⟨hh.1, fun u hu => h _ _ (hh.2 u hu)⟩
    · rename_i hw; simp only [hw] at hh; exact h _ _ hh

def wpAnyLs (P : Program) (md : Region.Mode) (ops : Array Oper) (C : World → Prop) (S : World → World → Prop) (M : Nat → Value → Prop) (R : Nat → Value → World → Prop) (Q : Act → Known → Prop) : Nat → Array Bool → Act → Known → Prop
  | 0, listed, a, F => Region.ready md ops listed = [] ∧ Q a F
  | fuel + 1, listed, a, F =>
    (Region.ready md ops listed = [] → Q a F) ∧
    ∀ i ∈ Region.ready md ops listed, lsOp P md ops C S M R i (wpAnyLs P md ops C S M R Q fuel (listed.setIfInBounds i true)) a F

theorem wpAny_of_ls {Q : Act → Known → Prop} {Q' : Exit → Act → World → Prop} (hR : ∀ i u w w', R i u w → S w w' → R i u w') (hQ : ∀ a F w, C w → (∀ k u, F k u → R k u w) → Q a F → Q' .normal a w) :
    ∀ (fuel : Nat) (listed : Array Bool) (a : Act) (F : Known) (w : World), C w → (∀ k u, F k u → R k u w) → wpAnyLs P md ops C S M R Q fuel listed a F → wpAny P md ops Q' fuel listed a w
  | 0, _, _, _, _, hw, hF, h => ⟨h.1, hQ _ _ _ hw hF h.2⟩
  | fuel + 1, listed, a, F, w, hw, hF, h => by
    refine ⟨fun h0 => hQ _ _ _ hw hF (h.1 h0), fun i hi => ?_⟩
    have h1 := h.2 i hi
    unfold lsOp at h1
    unfold wpOp
    split
    · rename_i ho; simp only [ho] at h1; exact wpAny_of_ls hR hQ fuel _ _ _ _ hw hF h1
    · rename_i o ho
      simp only [ho] at h1
      split
      · rename_i hwant
        simp only [hwant, if_true] at h1
        obtain ⟨hob, hk⟩ := h1
        have h2 := hob w hw fun k u hku _ => hF k u hku
        have hins : ∀ u w', S w w' → R i u w' → ∀ k v, (F.ins i u) k v → R k v w' := fun u w' hb hr k v hkv => by
          rcases hkv with ⟨rfl, rfl⟩ | hkv
          · exact hr
          · exact hR _ _ _ _ (hF k v hkv) hb
        refine .inl ?_
        unfold Oper.wp
        generalize (execOp a.eval o).run P w = r at h2
        cases r with
        | ok n w' =>
          cases n <;> simp only [LsUpon] at h2 <;> simp only [Oper.upon]
          case value u =>
            obtain ⟨hm, hc, hb, hr⟩ := h2
            exact wpAny_of_ls hR hQ fuel _ _ _ _ hc (hins u w' hb hr) (hk u hm)
          case skip =>
            obtain ⟨hm, hc, hb, hr⟩ := h2
            exact wpAny_of_ls hR hQ fuel _ _ _ _ hc (hins undef w' hb hr) (hk undef hm)
          case enter f args =>
            refine h2.mono fun e w'' ⟨u, he, hm, hc, hb, hr⟩ => ?_
            subst he
            exact wpAny_of_ls hR hQ fuel _ _ _ _ hc (hins u w'' hb hr) (hk u hm)
        | halt x w' => simp only [LsUpon] at h2
      · rename_i hwant
        simp only [hwant] at h1
        exact wpAny_of_ls hR hQ fuel _ _ _ _ hw hF h1

theorem wpAnyLs_first (hM : ∀ i, ∃ u, M i u) {Q : Act → Known → Prop} {i : Nat} {oi : Oper} (hi : ops[i]? = some oi) (hsel : ∀ (j : Nat) (o : Oper) cs b, ops[j]? = some o → o.op ≠ .select cs b) :
    ∀ (fuel : Nat) (listed : Array Bool) (a : Act) (F : Known),
      (∀ j oj, ops[j]? = some oj → j ≠ i → listed.getD j true = false → (∀ e ∈ oj.after, Region.binds md e = true → e.on ≠ i) → oi.apart ops oj = true) →
      i ∈ Region.ready md ops listed → lsOp P md ops C S M R i (wpAnyLs P md ops C S M R Q fuel (listed.setIfInBounds i true)) a F → wpAnyLs P md ops C S M R Q (fuel + 1) listed a F := by
  intro fuel
  induction fuel with
  | zero =>
    intro listed a F _ hr H
    refine ⟨fun h => (by rw [h] at hr; cases hr), fun j hj => ?_⟩
    by_cases hji : j = i
    · subst hji; exact H
    · have h1 := ready_mono hj hji
      have h2 : Region.ready md ops (listed.setIfInBounds i true) = [] := by
        unfold lsOp at H
        simp only [hi] at H
        split at H
        · obtain ⟨u, hu⟩ := hM i; exact (H.2 u hu).1
        · exact H.1
      rw [h2] at h1
      cases h1
  | succ fuel ih =>
    intro listed a F hfree hr H
    refine ⟨fun h => (by rw [h] at hr; cases hr), fun j hj => ?_⟩
    by_cases hji : j = i
    · subst hji; exact H
    obtain ⟨hjun, oj, hoj, hall⟩ := mem_ready.1 hj
    have hnot : ∀ e ∈ oj.after, Region.binds md e = true → e.on ≠ i := fun e he hb heq => by
      have h1 := hall e he hb
      have h0 := (mem_ready.1 hr).1
      rw [heq] at h1
      rcases Nat.lt_or_ge i listed.size with h' | h'
      · simp [h'] at h0 h1; rw [h0] at h1; cases h1
      · simp [Array.getElem?_eq_none h'] at h1
    have hneed : ¬ Needs md oj i := fun ⟨e, he, hb, heq⟩ => hnot e he hb heq
    have hap := hfree j oj hoj hji hjun hnot
    obtain ⟨p1, p2, p3⟩ := Oper.apart_spec hap
    have hsi := fun cs b => hsel i oi cs b hi
    have hsj := fun cs b => hsel j oj cs b hoj
    have hfree' : ∀ k ok, ops[k]? = some ok → k ≠ i → (listed.setIfInBounds j true).getD k true = false →
        (∀ e ∈ ok.after, Region.binds md e = true → e.on ≠ i) → oi.apart ops ok = true := fun k ok hk hki hun hno => by
      refine hfree k ok hk hki ?_ hno
      by_cases hjk : j = k
      · subst hjk; exact hjun
      · rw [getD_set_ne true hjk] at hun; exact hun
    have hcomm : (listed.setIfInBounds i true).setIfInBounds j true = (listed.setIfInBounds j true).setIfInBounds i true := Array.setIfInBounds_comm _ _ (Ne.symm hji)
    have hrj := ready_mono hj hji
    have hri := ready_mono hr (Ne.symm hji)
    -- what comes of the other one, taken behind this one
    have obj : ∀ u, ∀ F', (∀ k v, F' k v → k = i ∨ F k v) → LsOb P md C S M R j oj (a.put oi.dst u) F' → LsOb P md C S M R j oj a F := fun u F' hF' h w hw hf => by
      have := h w hw fun k v hk hn => by
        rcases hF' k v hk with rfl | hk
        · exact absurd hn hneed
        · exact hf k v hk hn
      rwa [execOp_put oj hsj a oi.dst u p1] at this
    have obi : ∀ u F', (∀ k v, F k v → F' k v) → LsOb P md C S M R i oi a F → LsOb P md C S M R i oi (a.put oj.dst u) F' := fun u F' hF' h w hw hf => by
      rw [execOp_put oi hsi a oj.dst u p3]
      exact h w hw fun k v hk hn => hf k v (hF' k v hk) hn
    have hinsj : ∀ u k v, F k v → (F.ins j u) k v := fun u k v h => .inr h
    have hinsi : ∀ u k v, (F.ins i u) k v → k = i ∨ F k v := fun u k v h => h.imp And.left id
    unfold lsOp at H
    simp only [hi] at H
    unfold lsOp
    simp only [hoj]
    split at H
    · rename_i hwi
      obtain ⟨hOi, HK⟩ := H
      have HJ : ∀ u, M i u → _ := fun u hu => (HK u hu).2 j hrj
      unfold lsOp at HJ
      simp only [hoj, wanted_put oj a oi.dst _ p1, hcomm] at HJ
      split
      · rename_i hwj
        simp only [hwj, if_true] at HJ
        obtain ⟨u0, hu0⟩ := hM i
        refine ⟨obj u0 _ (hinsi u0) (HJ u0 hu0).1, fun uj huj => ih _ _ _ hfree' hri ?_⟩
        unfold lsOp
        simp only [hi, wanted_put oi a oj.dst uj p3, hwi, if_true]
        refine ⟨obi uj _ (hinsj uj) hOi, fun ui hui => ?_⟩
        have := (HJ ui hui).2 uj huj
        rw [Act.put_comm a ui uj p2, Known.ins_comm] at this
        exact this
      · rename_i hwj
        simp only [hwj] at HJ
        refine ih _ _ _ hfree' hri ?_
        unfold lsOp
        simp only [hi, wanted_put oi a oj.dst undef p3, hwi, if_true]
        refine ⟨obi undef _ (fun k v h => h) hOi, fun ui hui => ?_⟩
        have := HJ ui hui
        simp only [Bool.false_eq_true, if_false] at this
        rw [Act.put_comm a ui undef p2] at this
        exact this
    · rename_i hwi
      have HJ := H.2 j hrj
      unfold lsOp at HJ
      simp only [hoj, wanted_put oj a oi.dst _ p1, hcomm] at HJ
      split
      · rename_i hwj
        simp only [hwj, if_true] at HJ
        refine ⟨obj undef _ (fun k v h => .inr h) HJ.1, fun uj huj => ih _ _ _ hfree' hri ?_⟩
        unfold lsOp
        simp only [hi, wanted_put oi a oj.dst uj p3, hwi]
        have := HJ.2 uj huj
        rw [Act.put_comm a undef uj p2] at this
        exact this
      · rename_i hwj
        simp only [hwj] at HJ
        refine ih _ _ _ hfree' hri ?_
        unfold lsOp
        simp only [hi, wanted_put oi a oj.dst undef p3, hwi]
        simp only [Bool.false_eq_true, if_false] at HJ ⊢
        rw [Act.put_comm a undef undef p2] at HJ
        exact HJ

/-- THE WALK, in the order of the text. -/
def wpLs (P : Program) (md : Region.Mode) (ops : Array Oper) (C : World → Prop) (S : World → World → Prop) (M : Nat → Value → Prop) (R : Nat → Value → World → Prop) (Q : Act → Known → Prop) : Nat → List Oper → Act → Known → Prop
  | _, [], a, F => Q a F
  | i, o :: rest, a, F => if Region.wanted o (yielded ops a.tmps) then LsOb P md C S M R i o a F ∧ ∀ u, M i u → wpLs P md ops C S M R Q (i + 1) rest (a.put o.dst u) (F.ins i u) else wpLs P md ops C S M R Q (i + 1) rest (a.put o.dst undef) F

theorem wpAnyLs_lex (hM : ∀ i, ∃ u, M i u) {Q : Act → Known → Prop} (hs : Region.noSelect ops = true) : ∀ (l : List Oper) (k : Nat) (listed : Array Bool) (a : Act) (F : Known), (∀ j, l[j]? = ops[k + j]?) →
    Region.lexFrom md ops l.length k listed = true → wpLs P md ops C S M R Q k l a F → wpAnyLs P md ops C S M R Q l.length listed a F
  | [], _, _, _, _, _, hB, h => ⟨by simpa [Region.lexFrom] using hB, h⟩
  | o :: l, k, listed, a, F, hl, hB, h => by
    have h0 : ops[k]? = some o := by simpa using (hl 0).symm
    simp only [List.length_cons, Region.lexFrom, Bool.and_eq_true] at hB
    obtain ⟨⟨hr, hf⟩, hB'⟩ := hB
    refine wpAnyLs_first hM h0 (Region.noSelect_spec hs) l.length listed a F (Region.free_spec h0 hf) (by simpa using hr) ?_
    have hst : lsOp P md ops C S M R k (wpLs P md ops C S M R Q (k + 1) l) a F := by unfold lsOp; simp only [h0]; exact h
    exact lsOp_mono (fun a F h => wpAnyLs_lex hM hs l (k + 1) _ _ _ (fun j => by have := hl (j + 1); simpa [Nat.add_assoc, Nat.add_comm 1 j] using this) hB' h) hst

theorem wpLs_congr {Q Q' : Act → Known → Prop} {M' : Nat → Value → Prop} {R' : Nat → Value → World → Prop} (hQ : ∀ a F, Q a F → Q' a F) : ∀ (l : List Oper) (i : Nat) (a : Act) (F : Known), (∀ j, i ≤ j → M j = M' j) → (∀ j, R j = R' j) → wpLs P md ops C S M R Q i l a F → wpLs P md ops C S M' R' Q' i l a F
  | [], _, _, _, _, _, h => hQ _ _ h
  | o :: rest, i, a, F, hM, hR, h => by
    have hRR : R = R' := funext hR
    subst hRR
    unfold wpLs at h ⊢
    split
    · rename_i hw
      rw [if_pos hw] at h
      refine ⟨?_, fun u hu => wpLs_congr hQ rest (i + 1) _ _ (fun j hj => hM j (by omega)) (fun _ => rfl) (h.2 u (by rw [hM i (Nat.le_refl _)]; exact hu))⟩
      have := h.1
      unfold LsOb at this ⊢
      rw [← hM i (Nat.le_refl _)]
      exact this
    · rename_i hw
      rw [if_neg hw] at h
      exact wpLs_congr hQ rest (i + 1) _ _ (fun j hj => hM j (by omega)) (fun _ => rfl) h
/-- It does not call. -/
def calmB (o : Oper) : Bool := match o.op with
  | .move _ | .assign _ | .load .. | .nilCheck _ | .fieldAddr .. | .indexAddr .. | .binOp .. | .unOp .. | .convert .. | .extract .. => true
  | _ => false
theorem bind_enter {α : Type} {s : Sem α} {k : α → Sem Next} (h : ∀ x w w' f args, (k x).run P w ≠ .ok (.enter f args) w') (w w' : World) (f : FuncId) (args : Array Value) : (s >>= k).run P w ≠ .ok (.enter f args) w' := fun e => by
  rw [Sem.run_bind] at e
  cases hs : s.run P w with
  | ok x w1 => rw [hs] at e; exact h x w1 w' f args e
  | halt x w1 => rw [hs] at e; simp at e
theorem calm_run {o : Oper} (h : calmB o = true) (ρ : Operand → Value) (w w' : World) (f : FuncId) (args : Array Value) : (execOp ρ o).run P w ≠ .ok (.enter f args) w' := by
  have hp : ∀ (x : Value) w w' f args, (pure (.value x) : Sem Next).run P w ≠ .ok (.enter f args) w' := fun x w w' f args e => by simp at e
  have hv : ∀ (s : Sem Value) w w' f args, (do pure (.value (← s)) : Sem Next).run P w ≠ .ok (.enter f args) w' := fun s => bind_enter hp
  obtain ⟨dst, op, ty, pos, after, guard⟩ := o
  unfold calmB at h
  unfold execOp
  cases op <;> simp only at h <;> try (exact absurd h (by decide))
  all_goals first
    | exact hv _ _ _ _ _
    | exact hp _ _ _ _ _
    | skip
  case nilCheck x =>
    simp only
    split
    all_goals first
      | (intro e; simp [runtimePanic] at e; done)
      | exact hp _ _ _ _ _
      | skip
    split
    · intro e; simp [runtimePanic] at e
    · refine bind_enter (fun x => ?_) _ _ _ _
      refine bind_enter (fun y => ?_)
      split
      · exact bind_enter fun _ => hp _
      · exact hp _
    · exact hp _ _ _ _ _
theorem calm_quiet {o : Oper} {a : Act} {w : World} {v : Value} (h : calmB o = true) (hq : o.quietAt P a C w v) : (execOp a.eval o).run P w = .ok (.value v) w ∨ ((execOp a.eval o).run P w = .ok .skip w ∧ v = undef) := by
  unfold Oper.quietAt at hq
  have hc := calm_run (P := P) h a.eval w
  generalize (execOp a.eval o).run P w = r at hq hc
  cases r with
  | ok n w' =>
    cases n <;> simp only [Oper.quietUpon] at hq
    case value u => obtain ⟨rfl, rfl⟩ := hq; exact .inl rfl
    case skip => obtain ⟨rfl, rfl⟩ := hq; exact .inr ⟨rfl, rfl⟩
    case enter f args => exact absurd rfl (hc _ _ _)
  | halt x w' => simp only [Oper.quietUpon] at hq
/-- The reads ahead, found as the walk goes. -/
theorem ls_of_quiet {Q : Act → Known → Prop} {n0 : Nat} (hS : ∀ w, C w → S w w) (hR0 : ∀ i, i < n0 → ∀ u w, R i u w) : ∀ (l1 l2 : List Oper) (i : Nat) (a : Act) (F : Known), i + l1.length = n0 → (l1.all calmB) = true →
    wpQuiet P ops C (fun a' => ∀ F', (∀ k u, F' k u → k < n0) → wpLs P md ops C S M R Q n0 l2 a' F') l1 a → (∀ k u, F k u → k < i) → ∃ M' : Nat → Value → Prop, (∀ j, n0 ≤ j → M' j = M j) ∧ (∀ j, j < n0 → ∃ u, M' j u) ∧ wpLs P md ops C S M' R Q i (l1 ++ l2) a F
  | [], l2, i, a, F, hi, _, h, hF => by
    have e : i = n0 := by simpa using hi
    subst e
    exact ⟨fun j => if j < i then fun _ => True else M j, fun j hj => by simp; omega, fun j hj => ⟨undef, by simp [hj]⟩, wpLs_congr (fun _ _ h => h) l2 i a F (fun j hj => (if_neg (by omega)).symm) (fun _ => rfl) (h F hF)⟩
  | o :: l1, l2, i, a, F, hi, hc, h, hF => by
    simp only [List.all_cons, Bool.and_eq_true] at hc
    have hil : i < n0 := by simp at hi; omega
    have hi' : i + 1 + l1.length = n0 := by simp at hi; omega
    unfold wpQuiet at h
    split at h
    · rename_i hw
      obtain ⟨v, h1, h2⟩ := h
      obtain ⟨M', m1, m2, m3⟩ := ls_of_quiet hS hR0 l1 l2 (i + 1) _ (F.ins i v) hi' hc.2 h2 (fun k u hk => by
        rcases hk with ⟨rfl, _⟩ | hk
        · omega
        · have := hF k u hk; omega)
      refine ⟨fun j => if j = i then fun u => u = v else M' j, fun j hj => (if_neg (by omega)).trans (m1 j hj), fun j hj => ?_, ?_⟩
      · by_cases e : j = i
        · exact ⟨v, by simp [e]⟩
        · obtain ⟨u, hu⟩ := m2 j hj
          exact ⟨u, by simp only [if_neg e]; exact hu⟩
      · rw [List.cons_append]
        unfold wpLs
        rw [if_pos hw]
        refine ⟨fun w hC _ => ?_, fun u hu => ?_⟩
        · rcases calm_quiet hc.1 (h1 w hC) with e | ⟨e, rfl⟩
          · rw [e]; exact ⟨by simp, hC, hS w hC, hR0 i hil _ _⟩
          · rw [e]; exact ⟨by simp, hC, hS w hC, hR0 i hil _ _⟩
        · have hu : u = v := by simpa using hu
          subst hu
          exact wpLs_congr (fun _ _ h => h) _ (i + 1) _ _ (fun j hj => (if_neg (by omega)).symm) (fun _ => rfl) m3
    · rename_i hw
      obtain ⟨M', m1, m2, m3⟩ := ls_of_quiet hS hR0 l1 l2 (i + 1) _ F hi' hc.2 h (fun k u hk => by have := hF k u hk; omega)
      refine ⟨M', m1, m2, ?_⟩
      rw [List.cons_append]
      unfold wpLs
      rw [if_neg hw]
      exact m3
end
section
variable {P : Program} {C : World → Prop} {S : World → World → Prop}
def peM (E : List (Pe S)) (n0 : Nat) (i : Nat) (u : Value) : Prop := ∀ p, (if i < n0 then none else E[i - n0]?) = some p → p.m u
def peR (E : List (Pe S)) (n0 : Nat) (i : Nat) (u : Value) (w : World) : Prop := ∀ p, (if i < n0 then none else E[i - n0]?) = some p → p.r u w
/-- The first n0 operations read; of the others each has a value of which so much is known. -/
theorem wp_region_ls {id : Nat} {Q : Exit → Act → World → Prop} {a : Act} {w : World} {l : List Oper} (n0 : Nat) (E : List (Pe S)) (hm : P.follows .mixedOrders = true) (hn : n0 ≤ l.length) (hB : Region.lexB .any l.toArray = true) (hc : (l.take n0).all calmB = true) (hC : C w.drew) (hS : ∀ w, C w → S w w)
    (h : wpQuiet P l.toArray C (fun a' => ∀ F', (∀ k u, F' k u → k < n0) → wpLs P .any l.toArray C S (peM E n0) (peR E n0) (fun a' F' => ∀ w', C w' → (∀ k u, F' k u → peR E n0 k u w') → Q .normal a' w') n0 (l.drop n0) a' F') (l.take n0) a) : (Code.region id l.toArray true).wp P Q a w := by
  simp only [Region.lexB, Bool.and_eq_true] at hB
  have hR0 : ∀ i, i < n0 → ∀ u w, peR E n0 i u w := fun i hi u w p hp => by rw [if_pos hi] at hp; cases hp
  obtain ⟨M', m1, m2, m3⟩ := ls_of_quiet (P := P) (md := .any) (ops := l.toArray) (C := C) (S := S) (M := peM E n0) (R := peR E n0) hS hR0 (l.take n0) (l.drop n0) 0 a (fun _ _ => False) (by simp; omega) hc h (fun _ _ h => h.elim)
  rw [List.take_append_drop] at m3
  have hM : ∀ i, ∃ u, M' i u := fun i => by
    by_cases hi : i < n0
    · exact m2 i hi
    · rw [m1 i (by omega)]
      cases hE : E[i - n0]? with
      | none => exact ⟨undef, fun p hp => by rw [if_neg hi, hE] at hp; cases hp⟩
      | some p =>
        obtain ⟨u, hu⟩ := p.ex
        exact ⟨u, fun p' hp => by rw [if_neg hi, hE] at hp; cases hp; exact hu⟩
  refine wp_region_any hm (wpAny_of_ls (S := S) (M := M') (R := peR E n0) (Q := fun a' F' => ∀ w', C w' → (∀ k u, F' k u → peR E n0 k u w') → Q .normal a' w') (fun i u w w' hr hs p hp => p.st u w w' (hr p hp) hs) (fun _ F w' hw' hF h => h w' hw' hF) _ _ _ (fun _ _ => False) _ hC (fun _ _ h => False.elim h) ?_)
  have := wpAnyLs_lex (P := P) (C := C) (S := S) (M := M') (R := peR E n0) (md := .any) hM hB.1 l 0 (Array.replicate l.length false) a (fun _ _ => False) (by simp) (by simpa using hB.2) m3
  simpa using this
end
end Go.Proofs.Ytgbbhkdaalnchaa
namespace Go.Proofs.Ytgbbhkdaalnchaa
set_option linter.unusedVariables false
set_option linter.unusedSimpArgs false
open Go.RowKit Go

section
variable {P : Program} {Q : Exit → Act → World → Prop}
/-- What is owed behind the forced operations, where the others read alone. -/
structure PreD (P : Program) (ops : Array Oper) (Q : Exit → Act → World → Prop) (r : List Oper) (a : Act) (w1 : World) : Prop where
  out : wpQuiet P ops (fun w' => ∃ m, w' = w1.drewN m) (fun a' => ∀ w', (∃ m, w' = w1.drewN m) → Q .normal a' w') r a
theorem preD {ops : Array Oper} {r : List Oper} {a : Act} {w1 : World} (h : wpQuiet P ops (fun w' => ∃ m, w' = w1.drewN m) (fun a' => ∀ w', (∃ m, w' = w1.drewN m) → Q .normal a' w') r a) : preQ Q (PreD P ops Q r) .normal a w1 := ⟨h⟩
/-- Reads and quiet calls; then some operations in their one order; then reads. -/
theorem wp_region_qcq {id : Nat} {a : Act} {w : World} {l : List Oper} (n m : Nat) (hm : P.follows .mixedOrders = true) (hs : Region.noSelect l.toArray = true) (hn : n + m ≤ l.length) (hT : postB .any l.toArray n = true)
    (hB : Region.lexB .any (l.take n).toArray = true) (hF : forcedB .any l.toArray m n (listedN n 0 (Array.replicate l.length false)) = true)
    (hR : Region.lexFrom .any l.toArray (l.drop (n + m)).length (n + m) (listedN m n (listedN n 0 (Array.replicate l.length false))) = true)
    (h : wpQuiet P (l.take n).toArray (fun w' => ∃ m, w' = w.drewN m) (fun a' => ∀ w', (∃ m, w' = w.drewN m) → wpList P l.toArray (preQ Q (PreD P l.toArray Q (l.drop (n + m)))) ((l.drop n).take m) a' w') (l.take n) a) : (Code.region id l.toArray true).wp P Q a w := by
  refine wp_region_any hm ?_
  simp only [Region.lexB, Bool.and_eq_true] at hB
  have hK : ∀ a w, wpList P l.toArray (preQ Q (PreD P l.toArray Q (l.drop (n + m)))) ((l.drop n).take m) a w → wpAny P .any l.toArray Q (l.drop n).length (listedN n 0 (Array.replicate l.length false)) a w := fun a w hh => by
    have hK2 : ∀ a w1, PreD P l.toArray Q (l.drop (n + m)) a w1 → wpAny P .any l.toArray Q (l.drop (n + m)).length (listedN m n (listedN n 0 (Array.replicate l.length false))) a w1 := fun a w1 ⟨hE⟩ =>
      wpAny_of_quiet (Q := fun a' => ∀ w', (∃ m, w' = w1.drewN m) → Q .normal a' w') (fun _ w' hw' h => h w' hw') _ _ _ _ ⟨0, rfl⟩
        (wpAnyQ_lex hs (l.drop (n + m)) (n + m) _ a (fun j => by simp) hR hE)
    have h2 := wpAny_pre (P := P) (md := .any) (Q := Q) (K := PreD P l.toArray Q (l.drop (n + m))) m n (listedN n 0 (Array.replicate l.length false)) ((l.drop n).take m) a w (l.drop (n + m)).length
      hK2 (by simp; omega) (fun j hj => by simp [List.getElem?_take, hj]) hF hh
    have e : m + (l.drop (n + m)).length = (l.drop n).length := by simp; omega
    rw [e] at h2
    exact h2
  have hL := wpAnyQ_lex (P := P) (C := fun w' => ∃ m, w' = w.drewN m) (md := .any) hB.1 (l.take n) 0 (Array.replicate (l.take n).length false) a (by simp) (by simpa using hB.2) h
  have h1 : wpAny P .any (l.take n).toArray (preQ Q (fun a w => wpList P l.toArray (preQ Q (PreD P l.toArray Q (l.drop (n + m)))) ((l.drop n).take m) a w)) (l.take n).length (Array.replicate (l.take n).length false) a w.drew :=
    wpAny_of_quiet (Q := fun a' => ∀ w', (∃ m, w' = w.drewN m) → wpList P l.toArray (preQ Q (PreD P l.toArray Q (l.drop (n + m)))) ((l.drop n).take m) a' w') (fun _ w' hw' hh => hh w' hw') _ _ _ _ ⟨1, rfl⟩ hL
  have hn2 : (l.take n).length = n := by simp; omega
  have h3 := wpAny_trunc (n := n) (m := (l.drop n).length) (by omega) hT hK (l.take n).length (Array.replicate (l.take n).length false) (Array.replicate l.length false) a w.drew (by simp; omega) (by simp)
    (fun i hi => by
      rw [rep_getD, rep_getD]) (fun i _ => rep_getD _ _) (fun j o _ hj => by rw [rep_getD] at hj; cases hj) (by simp) h1
  have e : (l.take n).length + (l.drop n).length = l.length := by rw [← List.length_append, List.take_append_drop]
  rw [e] at h3
  simpa using h3
end
end Go.Proofs.Ytgbbhkdaalnchaa
namespace Go.Proofs.Ytgbbhkdaalnchaa
set_option linter.unusedVariables false
set_option linter.unusedSimpArgs false
open Go.RowKit Go

/-- It does not call a function. -/
def calm2B (o : Oper) : Bool := calmB o || match o.op with
  | .call { callee := .builtin .len, args := _, argTypes := _ } => true
  | _ => false
section
variable {P : Program} {ops : Array Oper} {md : Region.Mode} {C : World → Prop} {S : World → World → Prop} {M : Nat → Value → Prop} {R : Nat → Value → World → Prop}
theorem calm2_run {o : Oper} (h : calm2B o = true) (ρ : Operand → Value) (w w' : World) (f : FuncId) (args : Array Value) : (execOp ρ o).run P w ≠ .ok (.enter f args) w' := by
  unfold calm2B at h
  cases hb : calmB o with
  | true => exact calm_run hb ρ w w' f args
  | false =>
    rw [hb, Bool.false_or] at h
    split at h
    · rename_i argts argTs ho
      have e : execOp ρ o = (do pure (.value (← Builtin.len_ argTs o.type (argts.map ρ))) : Sem Next) := by
        simp [execOp, ho, resolve, invoke, builtin]
      rw [e]
      exact bind_enter (fun x w w' f args e => by simp at e) _ _ _ _
    · cases h
theorem calm2_quiet {o : Oper} {a : Act} {w : World} {v : Value} (h : calm2B o = true) (hq : o.quietAt P a C w v) : (execOp a.eval o).run P w = .ok (.value v) w ∨ ((execOp a.eval o).run P w = .ok .skip w ∧ v = undef) := by
  unfold Oper.quietAt at hq
  have hc := calm2_run (P := P) h a.eval w
  generalize (execOp a.eval o).run P w = r at hq hc
  cases r with
  | ok n w' =>
    cases n <;> simp only [Oper.quietUpon] at hq
    case value u => obtain ⟨rfl, rfl⟩ := hq; exact .inl rfl
    case skip => obtain ⟨rfl, rfl⟩ := hq; exact .inr ⟨rfl, rfl⟩
    case enter f args => exact absurd rfl (hc _ _ _)
  | halt x w' => simp only [Oper.quietUpon] at hq
/-- The reads ahead, found as the walk goes. -/
theorem ls_of_quiet2 {Q : Act → Known → Prop} {n0 : Nat} (hS : ∀ w, C w → S w w) (hR0 : ∀ i, i < n0 → ∀ u w, R i u w) : ∀ (l1 l2 : List Oper) (i : Nat) (a : Act) (F : Known), i + l1.length = n0 → (l1.all calm2B) = true →
    wpQuiet P ops C (fun a' => ∀ F', (∀ k u, F' k u → k < n0) → wpLs P md ops C S M R Q n0 l2 a' F') l1 a → (∀ k u, F k u → k < i) → ∃ M' : Nat → Value → Prop, (∀ j, n0 ≤ j → M' j = M j) ∧ (∀ j, j < n0 → ∃ u, M' j u) ∧ wpLs P md ops C S M' R Q i (l1 ++ l2) a F
  | [], l2, i, a, F, hi, _, h, hF => by
    have e : i = n0 := by simpa using hi
    subst e
    exact ⟨fun j => if j < i then fun _ => True else M j, fun j hj => by simp; omega, fun j hj => ⟨undef, by simp [hj]⟩, wpLs_congr (fun _ _ h => h) l2 i a F (fun j hj => (if_neg (by omega)).symm) (fun _ => rfl) (h F hF)⟩
  | o :: l1, l2, i, a, F, hi, hc, h, hF => by
    simp only [List.all_cons, Bool.and_eq_true] at hc
    have hil : i < n0 := by simp at hi; omega
    have hi' : i + 1 + l1.length = n0 := by simp at hi; omega
    unfold wpQuiet at h
    split at h
    · rename_i hw
      obtain ⟨v, h1, h2⟩ := h
      obtain ⟨M', m1, m2, m3⟩ := ls_of_quiet2 hS hR0 l1 l2 (i + 1) _ (F.ins i v) hi' hc.2 h2 (fun k u hk => by
        rcases hk with ⟨rfl, _⟩ | hk
        · omega
        · have := hF k u hk; omega)
      refine ⟨fun j => if j = i then fun u => u = v else M' j, fun j hj => (if_neg (by omega)).trans (m1 j hj), fun j hj => ?_, ?_⟩
      · by_cases e : j = i
        · exact ⟨v, by simp [e]⟩
        · obtain ⟨u, hu⟩ := m2 j hj
          exact ⟨u, by simp only [if_neg e]; exact hu⟩
      · rw [List.cons_append]
        unfold wpLs
        rw [if_pos hw]
        refine ⟨fun w hC _ => ?_, fun u hu => ?_⟩
        · rcases calm2_quiet hc.1 (h1 w hC) with e | ⟨e, rfl⟩
          · rw [e]; exact ⟨by simp, hC, hS w hC, hR0 i hil _ _⟩
          · rw [e]; exact ⟨by simp, hC, hS w hC, hR0 i hil _ _⟩
        · have hu : u = v := by simpa using hu
          subst hu
          exact wpLs_congr (fun _ _ h => h) _ (i + 1) _ _ (fun j hj => (if_neg (by omega)).symm) (fun _ => rfl) m3
    · rename_i hw
      obtain ⟨M', m1, m2, m3⟩ := ls_of_quiet2 hS hR0 l1 l2 (i + 1) _ F hi' hc.2 h (fun k u hk => by have := hF k u hk; omega)
      refine ⟨M', m1, m2, ?_⟩
      rw [List.cons_append]
      unfold wpLs
      rw [if_neg hw]
      exact m3
end
section
variable {P : Program} {C : World → Prop} {S : World → World → Prop}
/-- The first n0 operations read; of the next (up to n) each has a value of which so much is known; the others come in one order. -/
theorem wp_region_lst {id : Nat} {Q : Exit → Act → World → Prop} {a : Act} {w : World} {l : List Oper} (n0 n : Nat) (E : List (Pe S)) (hm : P.follows .mixedOrders = true) (hn : n ≤ l.length) (hn0 : n0 ≤ n) (hT : postB .any l.toArray n = true)
    (hB : Region.lexB .any (l.take n).toArray = true) (hF : forcedB .any l.toArray (l.drop n).length n (listedN n 0 (Array.replicate l.length false)) = true)
    (hE : (Region.ready .any l.toArray (listedN (l.drop n).length n (listedN n 0 (Array.replicate l.length false)))).isEmpty = true)
    (hc : ((l.take n).take n0).all calm2B = true) (hC : C w.drew) (hS : ∀ w, C w → S w w)
    (h : wpQuiet P (l.take n).toArray C (fun a' => ∀ F', (∀ k u, F' k u → k < n0) → wpLs P .any (l.take n).toArray C S (peM E n0) (peR E n0) (fun a' F' => ∀ w', C w' → (∀ k u, F' k u → peR E n0 k u w') → wpList P l.toArray Q (l.drop n) a' w') n0 ((l.take n).drop n0) a' F') ((l.take n).take n0) a) :
    (Code.region id l.toArray true).wp P Q a w := by
  refine wp_region_any hm ?_
  simp only [Region.lexB, Bool.and_eq_true] at hB
  have hK : ∀ a w, wpList P l.toArray Q (l.drop n) a w → wpAny P .any l.toArray Q (l.drop n).length (listedN n 0 (Array.replicate l.length false)) a w := fun a w hh => by
    have h2 := wpAny_pre (P := P) (md := .any) (Q := Q) (K := fun a w => Q .normal a w) (l.drop n).length n (listedN n 0 (Array.replicate l.length false)) (l.drop n) a w 0
      (fun a w hq => ⟨by simpa using hE, hq⟩) rfl (fun j _ => by simp) hF (by rw [preQ_self]; exact hh)
    exact h2
  have hn2 : (l.take n).length = n := by simp; omega
  have hR0 : ∀ i, i < n0 → ∀ u w, peR E n0 i u w := fun i hi u w p hp => by rw [if_pos hi] at hp; cases hp
  obtain ⟨M', m1, m2, m3⟩ := ls_of_quiet2 (P := P) (md := .any) (ops := (l.take n).toArray) (C := C) (S := S) (M := peM E n0) (R := peR E n0) hS hR0 ((l.take n).take n0) ((l.take n).drop n0) 0 a (fun _ _ => False) (by simp; omega) hc h (fun _ _ h => h.elim)
  rw [List.take_append_drop] at m3
  have hM : ∀ i, ∃ u, M' i u := fun i => by
    by_cases hi : i < n0
    · exact m2 i hi
    · rw [m1 i (by omega)]
      cases hE : E[i - n0]? with
      | none => exact ⟨undef, fun p hp => by rw [if_neg hi, hE] at hp; cases hp⟩
      | some p =>
        obtain ⟨u, hu⟩ := p.ex
        exact ⟨u, fun p' hp => by rw [if_neg hi, hE] at hp; cases hp; exact hu⟩
  have hL := wpAnyLs_lex (P := P) (C := C) (S := S) (M := M') (R := peR E n0) (md := .any) hM hB.1 (l.take n) 0 (Array.replicate (l.take n).length false) a (fun _ _ => False) (by simp) (by simpa using hB.2) m3
  have h1 : wpAny P .any (l.take n).toArray (preQ Q (fun a w => wpList P l.toArray Q (l.drop n) a w)) (l.take n).length (Array.replicate (l.take n).length false) a w.drew :=
    wpAny_of_ls (S := S) (M := M') (R := peR E n0) (Q := fun a' F' => ∀ w', C w' → (∀ k u, F' k u → peR E n0 k u w') → wpList P l.toArray Q (l.drop n) a' w') (fun i u w w' hr hs p hp => p.st u w w' (hr p hp) hs) (fun _ F w' hw' hF h => h w' hw' hF) _ _ _ (fun _ _ => False) _ hC (fun _ _ h => h.elim) hL
  have h3 := wpAny_trunc (n := n) (m := (l.drop n).length) hn hT hK (l.take n).length (Array.replicate (l.take n).length false) (Array.replicate l.length false) a w.drew (by simp; omega) (by simp)
    (fun i hi => by
      rw [rep_getD, rep_getD]) (fun i _ => rep_getD _ _) (fun j o _ hj => by rw [rep_getD] at hj; cases hj) (by simp) h1
  have e : (l.take n).length + (l.drop n).length = l.length := by rw [← List.length_append, List.take_append_drop]
  rw [e] at h3
  simpa using h3
variable {ops : Array Oper} {n0 : Nat} {E : List (Pe S)} {Q : Act → Known → Prop} {i : Nat} {o : Oper} {rest : List Oper} {a : Act} {F : Known}
theorem ls_step (hw : Region.wanted o (yielded ops a.tmps) = true) (p : Pe S) (hE : (if i < n0 then none else E[i - n0]?) = some p)
    (hob : ∀ w, C w → (∀ k u, F k u → Needs .any o k → peR E n0 k u w) → LsUpon P C S p.m p.r w ((execOp a.eval o).run P w))
    (h : ∀ u, p.m u → wpLs P .any ops C S (peM E n0) (peR E n0) Q (i + 1) rest (a.put o.dst u) (F.ins i u)) : wpLs P .any ops C S (peM E n0) (peR E n0) Q i (o :: rest) a F := by
  unfold wpLs
  rw [if_pos hw]
  have hm : ∀ u, peM E n0 i u ↔ p.m u := fun u => ⟨fun hu => hu p hE, fun hu p' hp' => by rw [hE] at hp'; cases hp'; exact hu⟩
  have hr : ∀ u w, peR E n0 i u w ↔ p.r u w := fun u w => ⟨fun hu => hu p hE, fun hu p' hp' => by rw [hE] at hp'; cases hp'; exact hu⟩
  refine ⟨fun w hC hF => ?_, fun u hu => h u ((hm u).1 hu)⟩
  have h1 := hob w hC hF
  generalize (execOp a.eval o).run P w = r at h1 ⊢
  cases r with
  | ok n w' =>
    cases n <;> simp only [LsUpon] at h1 ⊢
    case value u => exact ⟨(hm u).2 h1.1, h1.2.1, h1.2.2.1, (hr u w').2 h1.2.2.2⟩
    case skip => exact ⟨(hm _).2 h1.1, h1.2.1, h1.2.2.1, (hr _ w').2 h1.2.2.2⟩
    case enter f args => exact h1.mono fun e w'' ⟨u, e1, e2, e3, e4, e5⟩ => ⟨u, e1, (hm u).2 e2, e3, e4, (hr u w'').2 e5⟩
  | halt x w' => simp only [LsUpon] at h1
/-- Later worlds: what was stands. -/
def Sbl (w w' : World) : Prop := Below w.heap.size w w'
/-- A value that is just this. -/
def peIs (v : Value) : Pe Sbl := ⟨fun u => u = v, fun _ _ => True, ⟨v, rfl⟩, fun _ _ _ _ _ => trivial⟩
/-- A value that reads. -/
theorem ls_val {W : World} {E : List (Pe Sbl)} (hw : Region.wanted o (yielded ops a.tmps) = true) (v : Value) (hE : (if i < n0 then none else E[i - n0]?) = some (peIs v))
    (hrun : ∀ x : Later W, (execOp a.eval o).run P x.w = .ok (.value v) x.w)
    (h : wpLs P .any ops (fun w' => ∃ x : Later W, w' = x.w) Sbl (peM E n0) (peR E n0) Q (i + 1) rest (a.put o.dst v) (F.ins i v)) : wpLs P .any ops (fun w' => ∃ x : Later W, w' = x.w) Sbl (peM E n0) (peR E n0) Q i (o :: rest) a F :=
  ls_step hw _ hE (fun w hC _ => by
    obtain ⟨x, rfl⟩ := hC
    rw [hrun x]; exact ⟨rfl, ⟨x, rfl⟩, Below.refl _ _, trivial⟩) fun u hu => by
    have hu : u = v := hu
    subst hu; exact h
/-- A call, of whose answer a relation is known. -/
theorem ls_call {W : World} {E : List (Pe Sbl)} (hw : Region.wanted o (yielded ops a.tmps) = true) (p : Pe Sbl) (hE : (if i < n0 then none else E[i - n0]?) = some p) (f : FuncId) (args : Array Value) (he : ∀ w, (execOp a.eval o).run P w = .ok (.enter f args) w)
    (c : ∀ x : Later W, Calls P f args x.w fun e w' => ∃ u, e = .returned u ∧ p.m u ∧ Below x.w.heap.size x.w w' ∧ p.r u w')
    (h : ∀ u, p.m u → wpLs P .any ops (fun w' => ∃ x : Later W, w' = x.w) Sbl (peM E n0) (peR E n0) Q (i + 1) rest (a.put o.dst u) (F.ins i u)) : wpLs P .any ops (fun w' => ∃ x : Later W, w' = x.w) Sbl (peM E n0) (peR E n0) Q i (o :: rest) a F :=
  ls_step hw p hE (fun w hC _ => by
    obtain ⟨x, rfl⟩ := hC
    rw [he x.w]
    refine (c x).mono ?_
    rintro e w' ⟨u, rfl, h1, hb, h2⟩
    exact ⟨u, rfl, h1, ⟨⟨w', x.below.trans (hb.mono x.below.size)⟩, rfl⟩, hb, h2⟩) h
end
end Go.Proofs.Ytgbbhkdaalnchaa
