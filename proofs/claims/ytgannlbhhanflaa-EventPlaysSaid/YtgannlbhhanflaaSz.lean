/-
  Steps of a region in which rows of the call's own are appended to (Sep): fixed values, calls that answer rows, new rows, appends. No program here.
-/
import Derived.Test.YtgannlbhhanflaaSep
import Derived.Test.YtgannlbhhanflaaLz
namespace Go.Proofs.Ytgannlbhhanflaa
set_option linter.unusedVariables false
set_option linter.unusedSimpArgs false
open Go.RowKit Go

/-- What is known of a value: it is just this, or it is a row of the call's own. -/
inductive Es where
  | is (v : Value)
  | row (base : Nat) (e : TypeId) (size n : Nat) (xs : List Value)
def esT (E : List Es) (i : Nat) : Option Value := match E[i]? with
  | some (.is v) => some v
  | _ => none
def esR (E : List Es) (i : Nat) (u : Value) (w : World) : Prop := match E[i]? with
  | some (.row base e size n xs) => w.ownsRow base e size u n xs
  | _ => True
def esF (E : List Es) (i : Nat) (u : Value) : Option Nat := match E[i]? with
  | some (.row ..) => u.ownBlock
  | _ => none
def esC (cs : List (Nat × Nat)) (k : Nat) : Option Nat := (cs.find? fun p => p.1 == k).map (·.2)
theorem esR_keep {E : List Es} (k : Nat) (u : Value) (w w' : World) (K : Option Nat) (h : esR E k u w) (hg : w.grownBy w' K) (hb : ∀ b, esF E k u = some b → b < w.heap.size ∧ K ≠ some b) : esR E k u w' := by
  unfold esR esF at *
  split
  · rename_i base e size n xs he
    simp only [he] at h hb
    refine h.kept hg ?_
    cases hu : u.ownBlock with
    | none => exact .inl rfl
    | some b => exact .inr fun hK => (hb b hu).2 hK.symm
  · trivial
theorem grown_of_below {w w' : World} (hb : Below w.heap.size w w') : w.grownBy w' none := ⟨hb.os, hb.tape, hb.output, hb.size, fun i hi _ => hb.block i hi⟩
section
variable {P : Program} {ops : Array Oper} {W : World} {base : Nat} {E : List Es} {cs : List (Nat × Nat)} {Q : Act → Known → Prop} {i : Nat} {o : Oper} {rest : List Oper} {a : Act} {F : Known}
abbrev Sw (P : Program) (ops : Array Oper) (W : World) (base : Nat) (E : List Es) (cs : List (Nat × Nat)) (Q : Act → Known → Prop) (i : Nat) (l : List Oper) (a : Act) (F : Known) : Prop :=
  wpSep P .any ops (fun w => Below base W w) (esT E) (esR E) (esF E) (esC cs) Q i l a F
/-- A fixed value; the world stays. -/
theorem sw_val (hw : Region.wanted o (yielded ops a.tmps) = true) (v : Value) (hE : E[i]? = some (.is v)) (hrun : ∀ w, Below base W w → (execOp a.eval o).run P w = .ok (.value v) w)
    (h : Sw P ops W base E cs Q (i + 1) rest (a.put o.dst v) (F.ins i v)) : Sw P ops W base E cs Q i (o :: rest) a F := by
  refine sep_want hw (fun w hC _ => ?_) fun u hu => ?_
  · rw [hrun w hC]
    refine ⟨fun v' hv' => by simp only [esT, hE] at hv'; cases hv'; rfl, hC, ⟨none, World.grownBy.refl w none, .inl rfl, fun b hb => ?_⟩, by simp only [esR, hE]⟩
    simp only [esF, hE] at hb; cases hb
  · have := hu v (by simp only [esT, hE])
    subst this
    exact h
theorem sw_skip (hw : Region.wanted o (yielded ops a.tmps) = false) (h : Sw P ops W base E cs Q (i + 1) rest (a.put o.dst undef) F) : Sw P ops W base E cs Q i (o :: rest) a F := by
  unfold Sw wpSep; rw [if_neg (by rw [hw]; exact Bool.false_ne_true)]; exact h
/-- A call that answers a new row. -/
theorem sw_call_row (hw : Region.wanted o (yielded ops a.tmps) = true) (f : FuncId) (args : Array Value) (b0 : Nat) (e : TypeId) (size n : Nat) (xs : List Value) (hE : E[i]? = some (.row b0 e size n xs)) (hb0 : b0 ≤ base) (hbw : base ≤ W.heap.size) (he : ∀ w, (execOp a.eval o).run P w = .ok (.enter f args) w)
    (c : ∀ w, Below base W w → Calls P f args w fun r w' => ∃ u, r = .returned u ∧ w'.ownsRow w.heap.size e size u n xs ∧ Below w.heap.size w w')
    (h : ∀ u, Sw P ops W base E cs Q (i + 1) rest (a.put o.dst u) (F.ins i u)) : Sw P ops W base E cs Q i (o :: rest) a F := by
  refine sep_want hw (fun w hC _ => ?_) fun u _ => h u
  rw [he w]
  refine (c w hC).mono ?_
  rintro r w' ⟨u, rfl, hown, hb⟩
  have hwz := hC.size
  refine ⟨u, rfl, fun v' hv' => (by simp only [esT, hE] at hv'; cases hv'), hC.trans (hb.mono (Nat.le_trans hbw hwz)), ⟨none, grown_of_below hb, .inl rfl, fun b hbb => ?_⟩, ?_⟩
  · simp only [esF, hE] at hbb
    obtain ⟨h1, h2⟩ := hown.lt b hbb
    exact ⟨h2, .inl h1⟩
  · simp only [esR, hE]
    exact own_mono hown (by omega)
/-- A new row is made of fixed values. -/
theorem sw_new (hw : Region.wanted o (yielded ops a.tmps) = true) (b0 : Nat) (e : TypeId) (size n : Nat) (xs : List Value) (hE : E[i]? = some (.row b0 e size n xs)) (hb0 : b0 ≤ base) (hbw : base ≤ W.heap.size)
    (hrun : ∀ w, Below base W w → ∃ u w', (execOp a.eval o).run P w = .ok (.value u) w' ∧ Below w.heap.size w w' ∧ w'.ownsRow w.heap.size e size u n xs)
    (h : ∀ u, Sw P ops W base E cs Q (i + 1) rest (a.put o.dst u) (F.ins i u)) : Sw P ops W base E cs Q i (o :: rest) a F := by
  refine sep_want hw (fun w hC _ => ?_) fun u _ => h u
  obtain ⟨u, w', e', hb, hown⟩ := hrun w hC
  rw [e']
  have hwz := hC.size
  refine ⟨fun v' hv' => (by simp only [esT, hE] at hv'; cases hv'), hC.trans (hb.mono (Nat.le_trans hbw hwz)), ⟨none, grown_of_below hb, .inl rfl, fun b hbb => ?_⟩, ?_⟩
  · simp only [esF, hE] at hbb
    obtain ⟨h1, h2⟩ := hown.lt b hbb
    exact ⟨h2, .inl h1⟩
  · simp only [esR, hE]
    exact own_mono hown (by omega)
end
end Go.Proofs.Ytgannlbhhanflaa
