/-
  REGIONS THAT DRAW THEIR ORDER, IN WHICH ROWS OF THE CALL'S OWN ARE APPENDED TO: one walk, in the order of the text. No program here.
  Each value that is known by a relation stands in a block of its own (or in none). An operation may write into the block of a value that it alone consumes; all others are kept. A value is alive till its one consumer is listed.
-/
import Derived.Test.YtgannlbhhanflaaLoose
import Derived.Laws.AppendOwn
namespace Go.Proofs.Ytgannlbhhanflaa
set_option linter.unusedVariables false
set_option linter.unusedSimpArgs false
open Go.RowKit Go

section
variable {P : Program} {ops : Array Oper} {md : Region.Mode} {C : World → Prop} {T : Nat → Option Value} {R : Nat → Value → World → Prop} {fp : Nat → Value → Option Nat} {c : Nat → Option Nat}

/-- It waits for operation number k, or k stood there ahead of the region. -/
def HasS (md : Region.Mode) (ops : Array Oper) (o : Oper) (k : Nat) : Prop := Needs md o k ∨ ops.size ≤ k
/-- What operation number i does to memory: it writes into one block at most, which it consumes; its value stands there or in a new block. -/
def SepStep (md : Region.Mode) (ops : Array Oper) (fp : Nat → Value → Option Nat) (c : Nat → Option Nat) (i : Nat) (o : Oper) (F : Known) (u : Value) (w w' : World) : Prop :=
  ∃ K : Option Nat, w.grownBy w' K ∧ (K = none ∨ ∃ k x, F k x ∧ HasS md ops o k ∧ c k = some i ∧ K = fp k x) ∧ ∀ b, fp i u = some b → b < w'.heap.size ∧ (w.heap.size ≤ b ∨ K = some b)
def SepUpon (P : Program) (md : Region.Mode) (ops : Array Oper) (C : World → Prop) (T : Nat → Option Value) (R : Nat → Value → World → Prop) (fp : Nat → Value → Option Nat) (c : Nat → Option Nat) (i : Nat) (o : Oper) (F : Known) (w : World) : Result Next → Prop
  | .ok (.value u) w' => MayBe T i u ∧ C w' ∧ SepStep md ops fp c i o F u w w' ∧ R i u w'
  | .ok (.enter f args) w' => Calls P f args w' fun e w'' => ∃ u, e = .returned u ∧ MayBe T i u ∧ C w'' ∧ SepStep md ops fp c i o F u w w'' ∧ R i u w''
  | _ => False
theorem SepStep.mono {i : Nat} {o : Oper} {F F' : Known} {u : Value} {w w' : World} (h : SepStep md ops fp c i o F u w w') (hF : ∀ k x, F k x → HasS md ops o k → F' k x) : SepStep md ops fp c i o F' u w w' := by
  obtain ⟨K, h1, h2, h3⟩ := h
  refine ⟨K, h1, ?_, h3⟩
  rcases h2 with h2 | ⟨k, x, a, b, d, e⟩
  · exact .inl h2
  · exact .inr ⟨k, x, hF k x a b, b, d, e⟩
theorem SepUpon.mono {i : Nat} {o : Oper} {F F' : Known} {w : World} {r : Result Next} (h : SepUpon P md ops C T R fp c i o F w r) (hF : ∀ k x, F k x → HasS md ops o k → F' k x) : SepUpon P md ops C T R fp c i o F' w r := by
  cases r with
  | ok n w' =>
    cases n <;> simp only [SepUpon] at h ⊢
    case value u => exact ⟨h.1, h.2.1, h.2.2.1.mono hF, h.2.2.2⟩
    case enter f args =>
      refine Calls.mono h ?_
      rintro e w'' ⟨u, he, h1, h2, h3, h4⟩
      exact ⟨u, he, h1, h2, h3.mono hF, h4⟩
  | halt x w' => simp only [SepUpon] at h
/-- What is asked of operation number i. -/
def ObS (P : Program) (md : Region.Mode) (ops : Array Oper) (C : World → Prop) (T : Nat → Option Value) (R : Nat → Value → World → Prop) (fp : Nat → Value → Option Nat) (c : Nat → Option Nat) (i : Nat) (o : Oper) (a : Act) (F : Known) : Prop :=
  ∀ w, C w → (∀ k u, F k u → HasS md ops o k → (c k = none ∨ c k = some i) → R k u w) → SepUpon P md ops C T R fp c i o F w ((execOp a.eval o).run P w)
def lOpS (P : Program) (md : Region.Mode) (ops : Array Oper) (C : World → Prop) (T : Nat → Option Value) (R : Nat → Value → World → Prop) (fp : Nat → Value → Option Nat) (c : Nat → Option Nat) (i : Nat) (K : Act → Known → Prop) (a : Act) (F : Known) : Prop :=
  match ops[i]? with
  | none => K a F
  | some o => if Region.wanted o (yielded ops a.tmps) then ObS P md ops C T R fp c i o a F ∧ ∀ u, MayBe T i u → K (a.put o.dst u) (F.ins i u) else K (a.put o.dst undef) F
theorem lOpS_mono {i : Nat} {a : Act} {F : Known} {K K' : Act → Known → Prop} (h : ∀ a F, K a F → K' a F) (hh : lOpS P md ops C T R fp c i K a F) : lOpS P md ops C T R fp c i K' a F := by
  unfold lOpS at *
  split
  · exact h _ _ (by simpa [*] using hh)
  · rename_i o ho
    simp only [ho] at hh
    split
    · rename_i hw; simp only [hw, if_true] at hh; exact ⟨hh.1, fun u hu => h _ _ (hh.2 u hu)⟩
    · rename_i hw; simp only [hw] at hh; exact h _ _ hh
def wpAnyS (P : Program) (md : Region.Mode) (ops : Array Oper) (C : World → Prop) (T : Nat → Option Value) (R : Nat → Value → World → Prop) (fp : Nat → Value → Option Nat) (c : Nat → Option Nat) (Q : Act → Known → Prop) : Nat → Array Bool → Act → Known → Prop
  | 0, listed, a, F => Region.ready md ops listed = [] ∧ Q a F
  | fuel + 1, listed, a, F =>
    (Region.ready md ops listed = [] → Q a F) ∧
    ∀ i ∈ Region.ready md ops listed, lOpS P md ops C T R fp c i (wpAnyS P md ops C T R fp c Q fuel (listed.setIfInBounds i true)) a F

/-- Its one consumer is not listed yet. -/
def AliveS (c : Nat → Option Nat) (listed : Array Bool) (k : Nat) : Prop := ∀ j, c k = some j → listed.getD j true = false
structure InvS (R : Nat → Value → World → Prop) (fp : Nat → Value → Option Nat) (c : Nat → Option Nat) (listed : Array Bool) (F : Known) (w : World) : Prop where
  rel : ∀ k u, F k u → AliveS c listed k → R k u w
  lt : ∀ k u, F k u → AliveS c listed k → ∀ b, fp k u = some b → b < w.heap.size
  ne : ∀ k u k' u', F k u → F k' u' → AliveS c listed k → AliveS c listed k' → k ≠ k' → ∀ b, fp k u = some b → fp k' u' ≠ some b
theorem alive_set {listed : Array Bool} {i k : Nat} (h : AliveS c (listed.setIfInBounds i true) k) : AliveS c listed k := fun j hj => by
  have := h j hj
  by_cases e : i = j
  · subst e
    rcases Nat.lt_or_ge i listed.size with h' | h'
    · simp [h'] at this
    · simp [Array.getElem?_eq_none h'] at this
  · rwa [getD_set_ne true e] at this
theorem not_alive {listed : Array Bool} {i k : Nat} (hc : c k = some i) (hi : listed.getD i true = false) : ¬ AliveS c (listed.setIfInBounds i true) k := fun h => by
  have := h i hc
  rcases Nat.lt_or_ge i listed.size with h' | h'
  · simp [h'] at this
  · simp [Array.getElem?_eq_none h'] at hi
theorem InvS.step (hR : ∀ k u w w' K, R k u w → w.grownBy w' K → (∀ b, fp k u = some b → b < w.heap.size ∧ K ≠ some b) → R k u w') {listed : Array Bool} {F : Known} {w w' : World} {i : Nat} {o : Oper} {u : Value}
    (hJ : InvS R fp c listed F w) (hi : listed.getD i true = false) (hs : SepStep md ops fp c i o F u w w') (hr : R i u w') : InvS R fp c (listed.setIfInBounds i true) (F.ins i u) w' := by
  obtain ⟨K, hg, hK, hb⟩ := hs
  have apart : ∀ k x, F k x → AliveS c (listed.setIfInBounds i true) k → ∀ b, fp k x = some b → K ≠ some b := fun k x hF ha b hfb hKb => by
    rcases hK with hK | ⟨k0, x0, hF0, _, hc0, hK0⟩
    · rw [hK] at hKb; cases hKb
    · have hk : k ≠ k0 := fun e => by subst e; exact not_alive hc0 hi ha
      have ha0 : AliveS c listed k0 := fun j hj => by rw [hc0] at hj; cases hj; exact hi
      exact hJ.ne k x k0 x0 hF hF0 (alive_set ha) ha0 hk b hfb (hK0 ▸ hKb)
  refine ⟨fun k x hF ha => ?_, fun k x hF ha b hfb => ?_, fun k x k' x' hF hF' ha ha' hne b hfb => ?_⟩
  · rcases hF with ⟨rfl, rfl⟩ | hF
    · exact hr
    · exact hR k x w w' K (hJ.rel k x hF (alive_set ha)) hg fun b hfb => ⟨hJ.lt k x hF (alive_set ha) b hfb, apart k x hF ha b hfb⟩
  · rcases hF with ⟨rfl, rfl⟩ | hF
    · exact (hb b hfb).1
    · exact Nat.lt_of_lt_of_le (hJ.lt k x hF (alive_set ha) b hfb) hg.size
  · intro hfb'
    rcases hF with ⟨rfl, rfl⟩ | hF
    · rcases hF' with ⟨rfl, rfl⟩ | hF'
      · exact hne rfl
      · rcases (hb b hfb).2 with h | h
        · have := hJ.lt k' x' hF' (alive_set ha') b hfb'; omega
        · exact apart k' x' hF' ha' b hfb' h
    · rcases hF' with ⟨rfl, rfl⟩ | hF'
      · rcases (hb b hfb').2 with h | h
        · have := hJ.lt k x hF (alive_set ha) b hfb; omega
        · exact apart k x hF ha b hfb h
      · exact hJ.ne k x k' x' hF hF' (alive_set ha) (alive_set ha') hne b hfb hfb'
theorem wpAny_of_sep {Q : Act → Known → Prop} {Q' : Exit → Act → World → Prop} (hR : ∀ k u w w' K, R k u w → w.grownBy w' K → (∀ b, fp k u = some b → b < w.heap.size ∧ K ≠ some b) → R k u w') (hQ : ∀ a F w listed, C w → InvS R fp c listed F w → Q a F → Q' .normal a w) :
    ∀ (fuel : Nat) (listed : Array Bool) (a : Act) (F : Known) (w : World), C w → InvS R fp c listed F w → wpAnyS P md ops C T R fp c Q fuel listed a F → wpAny P md ops Q' fuel listed a w
  | 0, _, _, _, _, hw, hJ, h => ⟨h.1, hQ _ _ _ _ hw hJ h.2⟩
  | fuel + 1, listed, a, F, w, hw, hJ, h => by
    refine ⟨fun h0 => hQ _ _ _ _ hw hJ (h.1 h0), fun i hi => ?_⟩
    have h1 := h.2 i hi
    have hil := (mem_ready.1 hi).1
    unfold lOpS at h1
    unfold wpOp
    obtain ⟨o0, ho0, _⟩ := (mem_ready.1 hi).2
    split
    · rename_i ho; rw [ho0] at ho; cases ho
    · rename_i o ho
      simp only [ho] at h1
      split
      · rename_i hwant
        simp only [hwant, if_true] at h1
        obtain ⟨hob, hk⟩ := h1
        have h2 := hob w hw fun k u hku _ hc => hJ.rel k u hku fun j hj => by
          rcases hc with hc | hc
          · rw [hc] at hj; cases hj
          · rw [hc] at hj; cases hj; exact hil
        refine .inl ?_
        unfold Oper.wp
        generalize (execOp a.eval o).run P w = r at h2
        cases r with
        | ok n w' =>
          cases n <;> simp only [SepUpon] at h2 <;> simp only [Oper.upon]
          case value u =>
            obtain ⟨hm, hc, hs, hr⟩ := h2
            exact wpAny_of_sep hR hQ fuel _ _ _ _ hc (hJ.step hR hil hs hr) (hk u hm)
          case enter f args =>
            refine h2.mono fun e w'' ⟨u, he, hm, hc, hs, hr⟩ => ?_
            subst he
            exact wpAny_of_sep hR hQ fuel _ _ _ _ hc (hJ.step hR hil hs hr) (hk u hm)
        | halt x w' => simp only [SepUpon] at h2
      · rename_i hwant
        simp only [hwant] at h1
        refine wpAny_of_sep hR hQ fuel _ _ _ _ hw ⟨fun k u hF ha => hJ.rel k u hF (alive_set ha), fun k u hF ha => hJ.lt k u hF (alive_set ha), fun k u k' u' hF hF' ha ha' => hJ.ne k u k' u' hF hF' (alive_set ha) (alive_set ha')⟩ h1

theorem wpAnyS_first {Q : Act → Known → Prop} {i : Nat} {oi : Oper} (hi : ops[i]? = some oi) (hsel : ∀ (j : Nat) (o : Oper) cs b, ops[j]? = some o → o.op ≠ .select cs b) :
    ∀ (fuel : Nat) (listed : Array Bool) (a : Act) (F : Known),
      (∀ j oj, ops[j]? = some oj → j ≠ i → listed.getD j true = false → (∀ e ∈ oj.after, Region.binds md e = true → e.on ≠ i) → oi.apart ops oj = true) →
      i ∈ Region.ready md ops listed → lOpS P md ops C T R fp c i (wpAnyS P md ops C T R fp c Q fuel (listed.setIfInBounds i true)) a F → wpAnyS P md ops C T R fp c Q (fuel + 1) listed a F := by
  intro fuel
  induction fuel with
  | zero =>
    intro listed a F _ hr H
    refine ⟨fun h => (by rw [h] at hr; cases hr), fun j hj => ?_⟩
    by_cases hji : j = i
    · subst hji; exact H
    · have h1 := ready_mono hj hji
      have h2 : Region.ready md ops (listed.setIfInBounds i true) = [] := by
        unfold lOpS at H
        simp only [hi] at H
        split at H
        · obtain ⟨u, hu⟩ := mayBe_any T i; exact (H.2 u hu).1
        · exact H.1
      rw [h2] at h1
      cases h1
  | succ fuel ih =>
    intro listed a F hfree hr H
    refine ⟨fun h => (by rw [h] at hr; cases hr), fun j hj => ?_⟩
    by_cases hji : j = i
    · subst hji; exact H
    obtain ⟨hjun, oj, hoj, hall⟩ := mem_ready.1 hj
    have hnot : ∀ e ∈ oj.after, Region.binds md e = true → e.on ≠ i := fun e he hb heq => by
      have h1 := hall e he hb
      have h0 := (mem_ready.1 hr).1
      rw [heq] at h1
      rcases Nat.lt_or_ge i listed.size with h' | h'
      · simp [h'] at h0 h1; rw [h0] at h1; cases h1
      · simp [Array.getElem?_eq_none h'] at h1
    have hneed : ¬ Needs md oj i := fun ⟨e, he, hb, heq⟩ => hnot e he hb heq
    have hap := hfree j oj hoj hji hjun hnot
    obtain ⟨p1, p2, p3⟩ := Oper.apart_spec hap
    have hsi := fun cs b => hsel i oi cs b hi
    have hsj := fun cs b => hsel j oj cs b hoj
    have hfree' : ∀ k ok, ops[k]? = some ok → k ≠ i → (listed.setIfInBounds j true).getD k true = false →
        (∀ e ∈ ok.after, Region.binds md e = true → e.on ≠ i) → oi.apart ops ok = true := fun k ok hk hki hun hno => by
      refine hfree k ok hk hki ?_ hno
      by_cases hjk : j = k
      · subst hjk; exact hjun
      · rw [getD_set_ne true hjk] at hun; exact hun
    have hcomm : (listed.setIfInBounds i true).setIfInBounds j true = (listed.setIfInBounds j true).setIfInBounds i true := Array.setIfInBounds_comm _ _ (Ne.symm hji)
    have hrj := ready_mono hj hji
    have hri := ready_mono hr (Ne.symm hji)
    -- what comes of the other one, taken behind this one
    have hneedS : ¬ HasS md ops oj i := fun h => by
      rcases h with h | h
      · exact hneed h
      · have := (Array.getElem?_eq_some_iff.1 hi).1; omega
    have obj : ∀ u, ∀ F', (∀ k v, F' k v → k = i ∨ F k v) → ObS P md ops C T R fp c j oj (a.put oi.dst u) F' → ObS P md ops C T R fp c j oj a F := fun u F' hF' h w hw hf => by
      have := h w hw fun k v hk hn hc => by
        rcases hF' k v hk with rfl | hk
        · exact absurd hn hneedS
        · exact hf k v hk hn hc
      rw [execOp_put oj hsj a oi.dst u p1] at this
      exact this.mono fun k x hk hn => by
        rcases hF' k x hk with rfl | hk
        · exact absurd hn hneedS
        · exact hk
    have obi : ∀ u F', (∀ k v, F k v → F' k v) → (∀ k v, F' k v → HasS md ops oi k → F k v ∨ True) → ObS P md ops C T R fp c i oi a F → ObS P md ops C T R fp c i oi (a.put oj.dst u) F' := fun u F' hF' _ h w hw hf => by
      rw [execOp_put oi hsi a oj.dst u p3]
      exact (h w hw fun k v hk hn hc => hf k v (hF' k v hk) hn hc).mono fun k x hk _ => hF' k x hk
    have hinsj : ∀ u k v, F k v → (F.ins j u) k v := fun u k v h => .inr h
    have hinsi : ∀ u k v, (F.ins i u) k v → k = i ∨ F k v := fun u k v h => h.imp And.left id
    unfold lOpS at H
    simp only [hi] at H
    unfold lOpS
    simp only [hoj]
    split at H
    · rename_i hwi
      obtain ⟨hOi, HK⟩ := H
      have HJ : ∀ u, MayBe T i u → _ := fun u hu => (HK u hu).2 j hrj
      unfold lOpS at HJ
      simp only [hoj, wanted_put oj a oi.dst _ p1, hcomm] at HJ
      split
      · rename_i hwj
        simp only [hwj, if_true] at HJ
        obtain ⟨u0, hu0⟩ := mayBe_any T i
        refine ⟨obj u0 _ (hinsi u0) (HJ u0 hu0).1, fun uj huj => ih _ _ _ hfree' hri ?_⟩
        unfold lOpS
        simp only [hi, wanted_put oi a oj.dst uj p3, hwi, if_true]
        refine ⟨obi uj _ (hinsj uj) (fun _ _ _ _ => .inr trivial) hOi, fun ui hui => ?_⟩
        have := (HJ ui hui).2 uj huj
        rw [Act.put_comm a ui uj p2, Known.ins_comm] at this
        exact this
      · rename_i hwj
        simp only [hwj] at HJ
        refine ih _ _ _ hfree' hri ?_
        unfold lOpS
        simp only [hi, wanted_put oi a oj.dst undef p3, hwi, if_true]
        refine ⟨obi undef _ (fun k v h => h) (fun _ _ _ _ => .inr trivial) hOi, fun ui hui => ?_⟩
        have := HJ ui hui
        simp only [Bool.false_eq_true, if_false] at this
        rw [Act.put_comm a ui undef p2] at this
        exact this
    · rename_i hwi
      have HJ := H.2 j hrj
      unfold lOpS at HJ
      simp only [hoj, wanted_put oj a oi.dst _ p1, hcomm] at HJ
      split
      · rename_i hwj
        simp only [hwj, if_true] at HJ
        refine ⟨obj undef _ (fun k v h => .inr h) HJ.1, fun uj huj => ih _ _ _ hfree' hri ?_⟩
        unfold lOpS
        simp only [hi, wanted_put oi a oj.dst uj p3, hwi]
        have := HJ.2 uj huj
        rw [Act.put_comm a undef uj p2] at this
        exact this
      · rename_i hwj
        simp only [hwj] at HJ
        refine ih _ _ _ hfree' hri ?_
        unfold lOpS
        simp only [hi, wanted_put oi a oj.dst undef p3, hwi]
        simp only [Bool.false_eq_true, if_false] at HJ ⊢
        rw [Act.put_comm a undef undef p2] at HJ
        exact HJ

/-- THE WALK, in the order of the text. -/
def wpSep (P : Program) (md : Region.Mode) (ops : Array Oper) (C : World → Prop) (T : Nat → Option Value) (R : Nat → Value → World → Prop) (fp : Nat → Value → Option Nat) (c : Nat → Option Nat) (Q : Act → Known → Prop) : Nat → List Oper → Act → Known → Prop
  | _, [], a, F => Q a F
  | i, o :: rest, a, F => if Region.wanted o (yielded ops a.tmps) then ObS P md ops C T R fp c i o a F ∧ ∀ u, MayBe T i u → wpSep P md ops C T R fp c Q (i + 1) rest (a.put o.dst u) (F.ins i u) else wpSep P md ops C T R fp c Q (i + 1) rest (a.put o.dst undef) F
theorem wpAnyS_lex {Q : Act → Known → Prop} (hs : Region.noSelect ops = true) : ∀ (l : List Oper) (k : Nat) (listed : Array Bool) (a : Act) (F : Known), (∀ j, l[j]? = ops[k + j]?) →
    Region.lexFrom md ops l.length k listed = true → wpSep P md ops C T R fp c Q k l a F → wpAnyS P md ops C T R fp c Q l.length listed a F
  | [], _, _, _, _, _, hB, h => ⟨by simpa [Region.lexFrom] using hB, h⟩
  | o :: l, k, listed, a, F, hl, hB, h => by
    have h0 : ops[k]? = some o := by simpa using (hl 0).symm
    simp only [List.length_cons, Region.lexFrom, Bool.and_eq_true] at hB
    obtain ⟨⟨hr, hf⟩, hB'⟩ := hB
    refine wpAnyS_first h0 (Region.noSelect_spec hs) l.length listed a F (Region.free_spec h0 hf) (by simpa using hr) ?_
    have hst : lOpS P md ops C T R fp c k (wpSep P md ops C T R fp c Q (k + 1) l) a F := by unfold lOpS; simp only [h0]; exact h
    exact lOpS_mono (fun a F h => wpAnyS_lex hs l (k + 1) _ _ _ (fun j => by have := hl (j + 1); simpa [Nat.add_assoc, Nat.add_comm 1 j] using this) hB' h) hst
theorem wp_region_sep {id : Nat} {Q : Exit → Act → World → Prop} {a : Act} {w : World} {l : List Oper} (T : Nat → Option Value) (R : Nat → Value → World → Prop) (fp : Nat → Value → Option Nat) (c : Nat → Option Nat) (C : World → Prop) (F0 : Known)
    (hm : P.follows .mixedOrders = true) (hB : Region.lexB .any l.toArray = true) (hC : C w.drew) (hR : ∀ k u w w' K, R k u w → w.grownBy w' K → (∀ b, fp k u = some b → b < w.heap.size ∧ K ≠ some b) → R k u w')
    (hJ : InvS R fp c (Array.replicate l.length false) F0 w.drew)
    (h : wpSep P .any l.toArray C T R fp c (fun a' F' => ∀ w' listed, C w' → InvS R fp c listed F' w' → Q .normal a' w') 0 l a F0) : (Code.region id l.toArray true).wp P Q a w := by
  simp only [Region.lexB, Bool.and_eq_true] at hB
  have := wpAnyS_lex (P := P) (C := C) (T := T) (R := R) (fp := fp) (c := c) (md := .any) hB.1 l 0 (Array.replicate l.length false) a F0 (by simp) (by simpa using hB.2) h
  refine wp_region_any hm (wpAny_of_sep (T := T) (Q := fun a' F' => ∀ w' listed, C w' → InvS R fp c listed F' w' → Q .normal a' w') hR (fun _ F w' listed hw' hj h => h w' listed hw' hj) _ _ _ F0 _ hC ?_ ?_)
  · simpa using hJ
  · simpa using this
theorem sep_want {Q : Act → Known → Prop} {i : Nat} {o : Oper} {rest : List Oper} {a : Act} {F : Known} (hw : Region.wanted o (yielded ops a.tmps) = true) (h1 : ObS P md ops C T R fp c i o a F)
    (h2 : ∀ u, MayBe T i u → wpSep P md ops C T R fp c Q (i + 1) rest (a.put o.dst u) (F.ins i u)) : wpSep P md ops C T R fp c Q i (o :: rest) a F := by
  unfold wpSep; rw [if_pos hw]; exact ⟨h1, h2⟩
end
end Go.Proofs.Ytgannlbhhanflaa
