/-
  Regions that draw their order, walked once in the order of the text: each value is fixed, or known by a relation that later worlds keep. The steps, over any program.
-/
import Derived.Test.YtgannlbhhanflaaLoose
import Derived.Test.YtgannlbhhanflaaBytP
import Derived.Laws.BytesArg
namespace Go.Proofs.Ytgannlbhhanflaa
set_option linter.unusedVariables false
set_option linter.unusedSimpArgs false
open Go.RowKit Go.BigFrame

/-- What is known of an operation's value: it is just this, or it stands in a relation to the world. -/
inductive En where
  | is (v : Value)
  | rel (r : Value → World → Prop) (h : ∀ u w w', r u w → Below w.heap.size w w' → r u w')
def enT (E : List En) (i : Nat) : Option Value := match E[i]? with
  | some (.is v) => some v
  | _ => none
def enR (E : List En) (i : Nat) (u : Value) (w : World) : Prop := match E[i]? with
  | some (.rel r _) => r u w
  | _ => True
theorem enR_below {E : List En} (i : Nat) (u : Value) (w w' : World) (h : enR E i u w) (hb : Below w.heap.size w w') : enR E i u w' := by
  unfold enR at *
  split
  · rename_i r hr he
    simp only [he] at h
    exact hr _ _ _ h hb
  · trivial
def needB (o : Oper) (k : Nat) : Bool := o.after.toList.any fun e => Region.binds .any e && e.on == k
theorem need_of {o : Oper} {k : Nat} (h : needB o k = true) : Needs .any o k := by
  unfold needB at h
  rw [List.any_eq_true] at h
  obtain ⟨e, he, hb⟩ := h
  simp only [Bool.and_eq_true, beq_iff_eq] at hb
  exact ⟨e, by simpa using he, hb⟩

section
variable {P : Program} {ops : Array Oper} {W : World} {E : List En} {Q : Act → Known → Prop} {i : Nat} {o : Oper} {rest : List Oper} {a : Act} {F : Known}
abbrev Lw (P : Program) (ops : Array Oper) (W : World) (E : List En) (Q : Act → Known → Prop) (i : Nat) (l : List Oper) (a : Act) (F : Known) : Prop :=
  wpLoose P .any ops (fun w => Below W.heap.size W w) (enT E) (enR E) Q i l a F
theorem lw_region {id : Nat} {Q : Exit → Act → World → Prop} {w : World} {l : List Oper} (E : List En) (hm : P.follows .mixedOrders = true) (hB : Region.lexB .any l.toArray = true)
    (h : Lw P l.toArray w E (fun a' _ => ∀ w', Below w.heap.size w w' → Q .normal a' w') 0 l a fun _ _ => False) : (Code.region id l.toArray true).wp P Q a w :=
  wp_region_loose (enT E) (enR E) (fun w' => Below w.heap.size w w') hm hB (Below.refl _ _).drew enR_below h
theorem lw_skip (hw : Region.wanted o (yielded ops a.tmps) = false) (h : Lw P ops W E Q (i + 1) rest (a.put o.dst undef) F) : Lw P ops W E Q i (o :: rest) a F := by
  unfold Lw wpLoose; rw [if_neg (by rw [hw]; exact Bool.false_ne_true)]; exact h
theorem lw_val (hw : Region.wanted o (yielded ops a.tmps) = true) (v : Value) (hE : E[i]? = some (.is v)) (hrun : ∀ w, Below W.heap.size W w → (execOp a.eval o).run P w = .ok (.value v) w)
    (h : Lw P ops W E Q (i + 1) rest (a.put o.dst v) (F.ins i v)) : Lw P ops W E Q i (o :: rest) a F := by
  refine loose_want hw (fun w hC _ => ?_) fun u hu => ?_
  · rw [hrun w hC]
    exact ⟨fun v' hv' => by simp only [enT, hE] at hv'; cases hv'; rfl, hC, Below.refl _ _, by simp only [enR, hE]⟩
  · have := hu v (by simp only [enT, hE])
    subst this
    exact h
theorem lw_move (hw : Region.wanted o (yielded ops a.tmps) = true) (x : Operand) (ho : o.op = .move x) (v : Value) (hE : E[i]? = some (.is v)) (hx : a.eval x = v)
    (h : Lw P ops W E Q (i + 1) rest (a.put o.dst v) (F.ins i v)) : Lw P ops W E Q i (o :: rest) a F :=
  lw_val hw v hE (fun w _ => by rw [run_move x ho, hx]) h
theorem lw_assign (hw : Region.wanted o (yielded ops a.tmps) = true) (x : Operand) (ho : o.op = .assign x) (v : Value) (hE : E[i]? = some (.is v)) (hx : a.eval x = v)
    (h : Lw P ops W E Q (i + 1) rest (a.put o.dst v) (F.ins i v)) : Lw P ops W E Q i (o :: rest) a F :=
  lw_val hw v hE (fun w _ => by unfold execOp; rw [ho]; generalize a.eval = ρ at hx; simp [hx, go_sem]) h
theorem lw_pickF (hw : Region.wanted o (yielded ops a.tmps) = true) (c x y : Operand) (ho : o.op = .pick c x y) (hc : a.eval c = .bool false) (v : Value) (hE : E[i]? = some (.is v)) (hy : a.eval y = v)
    (h : Lw P ops W E Q (i + 1) rest (a.put o.dst v) (F.ins i v)) : Lw P ops W E Q i (o :: rest) a F :=
  lw_val hw v hE (fun w _ => by unfold execOp; rw [ho]; generalize a.eval = ρ at hc hy; simp [hc, hy, go_sem]) h
theorem lw_pickT (hw : Region.wanted o (yielded ops a.tmps) = true) (c x y : Operand) (ho : o.op = .pick c x y) (hc : a.eval c = .bool true) (v : Value) (hE : E[i]? = some (.is v)) (hy : a.eval x = v)
    (h : Lw P ops W E Q (i + 1) rest (a.put o.dst v) (F.ins i v)) : Lw P ops W E Q i (o :: rest) a F :=
  lw_val hw v hE (fun w _ => by unfold execOp; rw [ho]; generalize a.eval = ρ at hc hy; simp [hc, hy, go_sem]) h
/-- An operation on two values that leaves the world alone. -/
theorem lw_bin (hw : Region.wanted o (yielded ops a.tmps) = true) (b : BinOp) (t t' : TypeId) (x y : Operand) (ho : o.op = .binOp b t x y t') (vx vy : Value) (hx : a.eval x = vx) (hy : a.eval y = vy) (v : Value) (hE : E[i]? = some (.is v))
    (hrun : ∀ (ρ : Operand → Value) (w : World), ρ x = vx → ρ y = vy → (execOp ρ o).run P w = .ok (.value v) w)
    (h : Lw P ops W E Q (i + 1) rest (a.put o.dst v) (F.ins i v)) : Lw P ops W E Q i (o :: rest) a F :=
  lw_val hw v hE (fun w _ => hrun a.eval w hx hy) h
/-- A call that answers a fixed value. -/
theorem lw_call (hw : Region.wanted o (yielded ops a.tmps) = true) (f : FuncId) (args : Array Value) (v : Value) (hE : E[i]? = some (.is v)) (he : ∀ w, (execOp a.eval o).run P w = .ok (.enter f args) w)
    (c : ∀ w, Below W.heap.size W w → Calls P f args w fun e w' => e = .returned v ∧ Below w.heap.size w w')
    (h : Lw P ops W E Q (i + 1) rest (a.put o.dst v) (F.ins i v)) : Lw P ops W E Q i (o :: rest) a F := by
  refine loose_want hw (fun w hC _ => ?_) fun u hu => ?_
  · rw [he w]
    refine (c w hC).mono ?_
    rintro e w' ⟨rfl, hb⟩
    exact ⟨_, rfl, fun v' hv' => by simp only [enT, hE] at hv'; cases hv'; rfl, hC.trans (hb.mono hC.size), hb, by simp only [enR, hE]⟩
  · have := hu v (by simp only [enT, hE])
    subst this
    exact h
/-- A call that answers a value of which a relation is known. -/
theorem lw_call_rel (hw : Region.wanted o (yielded ops a.tmps) = true) (f : FuncId) (args : Array Value) (r : Value → World → Prop) (hr) (hE : E[i]? = some (.rel r hr)) (he : ∀ w, (execOp a.eval o).run P w = .ok (.enter f args) w)
    (c : ∀ w, Below W.heap.size W w → Calls P f args w fun e w' => ∃ u, e = .returned u ∧ r u w' ∧ Below w.heap.size w w')
    (h : ∀ u, Lw P ops W E Q (i + 1) rest (a.put o.dst u) (F.ins i u)) : Lw P ops W E Q i (o :: rest) a F := by
  refine loose_want hw (fun w hC _ => ?_) fun u _ => h u
  rw [he w]
  refine (c w hC).mono ?_
  rintro e w' ⟨u, rfl, hru, hb⟩
  exact ⟨_, rfl, fun v' hv' => (by simp only [enT, hE] at hv'; cases hv'), hC.trans (hb.mono hC.size), hb, by simp only [enR, hE]; exact hru⟩
/-- A move of a value of which a relation is known. -/
theorem lw_move_rel (hw : Region.wanted o (yielded ops a.tmps) = true) (x : Operand) (ho : o.op = .move x) (k : Nat) (z : Value) (hx : a.eval x = z) (hk : needB o k = true) (hF : F k z) (r : Value → World → Prop) (hr) (hEk : E[k]? = some (.rel r hr)) (hE : E[i]? = some (.rel r hr))
    (h : ∀ u, Lw P ops W E Q (i + 1) rest (a.put o.dst u) (F.ins i u)) : Lw P ops W E Q i (o :: rest) a F := by
  refine loose_want hw (fun w hC hR => ?_) fun u _ => h u
  have : r z w := by have := hR k z hF (need_of hk); simpa only [enR, hEk] using this
  rw [run_move x ho, hx]
  exact ⟨fun v' hv' => (by simp only [enT, hE] at hv'; cases hv'), hC, Below.refl _ _, by simp only [enR, hE]; exact this⟩
/-- An operation that reads a value of which a relation is known, and gives a fixed one. -/
theorem lw_read (hw : Region.wanted o (yielded ops a.tmps) = true) (k : Nat) (z : Value) (hk : needB o k = true) (hF : F k z) (r : Value → World → Prop) (hr) (hEk : E[k]? = some (.rel r hr)) (v : Value) (hE : E[i]? = some (.is v))
    (hrun : ∀ w, Below W.heap.size W w → r z w → (execOp a.eval o).run P w = .ok (.value v) w)
    (h : Lw P ops W E Q (i + 1) rest (a.put o.dst v) (F.ins i v)) : Lw P ops W E Q i (o :: rest) a F := by
  refine loose_want hw (fun w hC hR => ?_) fun u hu => ?_
  · have : r z w := by have := hR k z hF (need_of hk); simpa only [enR, hEk] using this
    rw [hrun w hC this]
    exact ⟨fun v' hv' => by simp only [enT, hE] at hv'; cases hv'; rfl, hC, Below.refl _ _, by simp only [enR, hE]⟩
  · have := hu v (by simp only [enT, hE])
    subst this
    exact h
/-- A call that takes a value of which a relation is known, and answers a fixed one. -/
theorem lw_call_of (hw : Region.wanted o (yielded ops a.tmps) = true) (k : Nat) (z : Value) (hk : needB o k = true) (hF : F k z) (r : Value → World → Prop) (hr) (hEk : E[k]? = some (.rel r hr)) (f : FuncId) (args : Array Value) (v : Value) (hE : E[i]? = some (.is v))
    (he : ∀ w, (execOp a.eval o).run P w = .ok (.enter f args) w)
    (c : ∀ w, Below W.heap.size W w → r z w → Calls P f args w fun e w' => e = .returned v ∧ Below w.heap.size w w')
    (h : Lw P ops W E Q (i + 1) rest (a.put o.dst v) (F.ins i v)) : Lw P ops W E Q i (o :: rest) a F := by
  refine loose_want hw (fun w hC hR => ?_) fun u hu => ?_
  · have : r z w := by have := hR k z hF (need_of hk); simpa only [enR, hEk] using this
    rw [he w]
    refine (c w hC this).mono ?_
    rintro e w' ⟨rfl, hb⟩
    exact ⟨_, rfl, fun v' hv' => by simp only [enT, hE] at hv'; cases hv'; rfl, hC.trans (hb.mono hC.size), hb, by simp only [enR, hE]⟩
  · have := hu v (by simp only [enT, hE])
    subst this
    exact h
/-- A new thing is made of fixed values. -/
theorem lw_new (hw : Region.wanted o (yielded ops a.tmps) = true) (r : Value → World → Prop) (hr) (hE : E[i]? = some (.rel r hr)) (hrun : ∀ w, Below W.heap.size W w → ∃ u w', (execOp a.eval o).run P w = .ok (.value u) w' ∧ Below w.heap.size w w' ∧ r u w')
    (h : ∀ u, Lw P ops W E Q (i + 1) rest (a.put o.dst u) (F.ins i u)) : Lw P ops W E Q i (o :: rest) a F := by
  refine loose_want hw (fun w hC _ => ?_) fun u _ => h u
  obtain ⟨u, w', e, hb, hru⟩ := hrun w hC
  rw [e]
  exact ⟨fun v' hv' => (by simp only [enT, hE] at hv'; cases hv'), hC.trans (hb.mono hC.size), hb, by simp only [enR, hE]; exact hru⟩
end

/-- A slice that reads as bytes. -/
def BytesIs (l : List Int) (u : Value) (w : World) : Prop := ∃ A c, u = .slice A l.length c ∧ l.length ≤ c ∧ c ≤ maxLen ∧ BRows w w.heap.size A l
theorem BytesIs.keep (l : List Int) (u : Value) (w w' : World) (h : BytesIs l u w) (hb : Below w.heap.size w w') : BytesIs l u w' := by
  obtain ⟨A, c, e, h1, h2, hr⟩ := h
  refine ⟨A, c, e, h1, h2, fun hl => ?_⟩
  obtain ⟨b, o, e, hlt, hc⟩ := (hr.below hb) hl
  exact ⟨b, o, e, Nat.lt_of_lt_of_le hlt hb.size, hc⟩
abbrev En.bytes (l : List Int) : En := .rel (BytesIs l) (BytesIs.keep l)
theorem BytesIs.of_own {w : World} {base : Nat} {e : TypeId} {v : Value} {l : List Int} (h : w.ownsRow base e 1 v l.length (bcells l)) : BytesIs l v w := by
  obtain ⟨A, c, rfl, h1, h2, hR⟩ := own_open h
  exact ⟨A, c, rfl, h1, h2, rd_brows hR⟩
theorem run_conv_bytes {P : Program} (src e dst : TypeId) (hs : P.underlying src = some (.slice e)) (he : P.underlying e = some (.int .u8)) (hd : P.underlying dst = some .string) {l : List Int} {u : Value} {w : World} (h : BytesIs l u w) :
    (convert src dst u).run P w = .ok (.string (strOfNums l)) w := by
  obtain ⟨A, c, rfl, h1, h2, hr⟩ := h
  rcases l with _ | ⟨x, l⟩
  · rcases A with _ | ad
    · rw [List.length_nil, run_convert_bytes_nil w src e hs he 0 c dst hd]
      rfl
    · rw [run_convert_bytes_string w src dst e _ _ c hs he hd]
      exact run_bytesToString w ad 0 c [] (by simp [loadCells, loadCellsFrom])
  · obtain ⟨b, o, rfl, hlt, hc⟩ := hr (by simp)
    exact run_convert_bytes_arg w src e hs he b o _ c (x :: l) rfl (fun i hi => by
      rw [hc i _ (List.getElem?_eq_getElem hi), List.getD_eq_getElem?_getD, List.getElem?_eq_getElem hi]; rfl) dst hd
theorem str_inj {l m : List Int} (hl : ∀ c ∈ l, 0 ≤ c ∧ c ≤ 255) (hm : ∀ c ∈ m, 0 ≤ c ∧ c ≤ 255) (h : strOfNums l = strOfNums m) : l = m := by
  have h1 : l.map (fun n => UInt8.ofNat n.toNat) = m.map fun n => UInt8.ofNat n.toNat := by
    have := congrArg (fun b => b.data.toList) h
    simpa [strOfNums_data] using this
  clear h
  induction l generalizing m with
  | nil => cases m with
    | nil => rfl
    | cons y m => cases h1
  | cons x l ih => cases m with
    | nil => cases h1
    | cons y m =>
      simp only [List.map_cons, List.cons.injEq] at h1
      obtain ⟨e, h1⟩ := h1
      have := hl x List.mem_cons_self
      have := hm y List.mem_cons_self
      have e2 := congrArg UInt8.toNat e
      simp at e2
      rw [Nat.mod_eq_of_lt (by omega), Nat.mod_eq_of_lt (by omega)] at e2
      rw [ih (fun c hc => hl c (List.mem_cons_of_mem _ hc)) (fun c hc => hm c (List.mem_cons_of_mem _ hc)) h1, show x = y from by omega]
theorem str_eq {l m : List Int} (hl : ∀ c ∈ l, 0 ≤ c ∧ c ≤ 255) (hm : ∀ c ∈ m, 0 ≤ c ∧ c ≤ 255) : strOfNums l = strOfNums m ↔ l = m := ⟨str_inj hl hm, fun h => by rw [h]⟩
end Go.Proofs.Ytgannlbhhanflaa
