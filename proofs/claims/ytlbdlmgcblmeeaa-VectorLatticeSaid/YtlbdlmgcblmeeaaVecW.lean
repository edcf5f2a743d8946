/-
  The operations of a region that draws its order and joins and meets pairs: each by one law.
-/
import Derived.Test.YtlbdlmgcblmeeaaVecM
import Derived.Test.YtlbdlmgcblmeeaaLoose
namespace Go.Proofs.Ytlbdlmgcblmeeaa
open Go.RowKit Go.BigFrame

inductive Ent where
  | is (v : Value)
  | two (x y : Vec)
@[reducible] def twoCells (a b : Vec) : Array Value := #[.int .u64 a.v0, .int .u64 a.v1, .int .u64 a.v2, .int .u64 a.v3, .int .u64 a.v4, .int .u64 a.v5, .int .u64 b.v0, .int .u64 b.v1, .int .u64 b.v2, .int .u64 b.v3, .int .u64 b.v4, .int .u64 b.v5]
def tabT (E : List Ent) (i : Nat) : Option Value := match E[i]? with
  | some (.is v) => some v
  | _ => none
def tabR (t : TypeId) (E : List Ent) (i : Nat) (u : Value) (w : World) : Prop := match E[i]? with
  | some (.two x y) => ∃ g, u = .slice (some ⟨g, 0, none⟩) 2 2 ∧ Blk w g t (twoCells x y)
  | _ => True
theorem tabR_below {t : TypeId} {E : List Ent} (i : Nat) (u : Value) (w w' : World) (h : tabR t E i u w) (hb : Below w.heap.size w w') : tabR t E i u w' := by
  unfold tabR at *
  split
  · rename_i x y he
    simp only [he] at h
    obtain ⟨g, hu, hg⟩ := h
    exact ⟨g, hu, hg.below hb hg.lt⟩
  · trivial

def needsB (o : Oper) (k : Nat) : Bool := o.after.toList.any fun e => Region.binds .any e && e.on == k
theorem needs_of {o : Oper} {k : Nat} (h : needsB o k = true) : Needs .any o k := by
  unfold needsB at h
  rw [List.any_eq_true] at h
  obtain ⟨e, he, hb⟩ := h
  simp only [Bool.and_eq_true, beq_iff_eq] at hb
  exact ⟨e, by simpa using he, hb⟩

section
variable {ops : Array Oper} {W : World} {bs : List (Nat × TypeId × Array Value)} {E : List Ent} {Q : Act → Prop} {i : Nat} {o : Oper} {rest : List Oper} {a : Act} {F : Known}
abbrev Lz (ops : Array Oper) (W : World) (bs : List (Nat × TypeId × Array Value)) (E : List Ent) (Q : Act → Prop) (i : Nat) (l : List Oper) (a : Act) (F : Known) : Prop :=
  wpLoose Try.prog .any ops (fun w => Trk W w bs) (tabT E) (tabR 25 E) Q i l a F
theorem lz_region {id : Nat} {Q : Exit → Act → World → Prop} {w : World} {l : List Oper} (E : List Ent) (T : Trk W w bs) (hB : Region.lexB .any l.toArray = true)
    (h : Lz l.toArray W bs E (fun a' => ∀ w', Trk W w' bs → Q .normal a' w') 0 l a fun _ _ => False) : (Code.region id l.toArray true).wp Try.prog Q a w :=
  wp_region_loose (tabT E) (tabR 25 E) (fun w => Trk W w bs) (by kernel_rfl) hB T.drew tabR_below h
theorem lz_skip (hw : Region.wanted o (yielded ops a.tmps) = false) (h : Lz ops W bs E Q (i + 1) rest (a.put o.dst undef) F) : Lz ops W bs E Q i (o :: rest) a F := by
  unfold Lz wpLoose; rw [if_neg (by rw [hw]; exact Bool.false_ne_true)]; exact h
theorem lz_is (hw : Region.wanted o (yielded ops a.tmps) = true) (v : Value) (hE : E[i]? = some (.is v)) (hrun : ∀ w, Trk W w bs → (execOp a.eval o).run Try.prog w = .ok (.value v) w)
    (h : Lz ops W bs E Q (i + 1) rest (a.put o.dst v) (F.ins i v)) : Lz ops W bs E Q i (o :: rest) a F := by
  refine loose_want hw (fun w hC _ => ?_) fun u hu => ?_
  · rw [hrun w hC]
    exact ⟨fun v' hv' => by simp only [tabT, hE] at hv'; cases hv'; rfl, hC, Below.refl _ _, by simp only [tabR, hE]⟩
  · have := hu v (by simp only [tabT, hE])
    subst this
    exact h
theorem lz_move (hw : Region.wanted o (yielded ops a.tmps) = true) (x : Operand) (ho : o.op = .move x) (v : Value) (hE : E[i]? = some (.is v)) (hx : a.eval x = v)
    (h : Lz ops W bs E Q (i + 1) rest (a.put o.dst v) (F.ins i v)) : Lz ops W bs E Q i (o :: rest) a F :=
  lz_is hw v hE (fun w _ => by rw [run_move x ho, hx]) h
theorem lz_pick (hw : Region.wanted o (yielded ops a.tmps) = true) (c x y : Operand) (ho : o.op = .pick c x y) (hc : a.eval c = .bool false) (v : Value) (hE : E[i]? = some (.is v)) (hy : a.eval y = v)
    (h : Lz ops W bs E Q (i + 1) rest (a.put o.dst v) (F.ins i v)) : Lz ops W bs E Q i (o :: rest) a F :=
  lz_is hw v hE (fun w _ => by unfold execOp; rw [ho]; generalize a.eval = ρ at hc hy; simp [hc, hy, go_sem]) h
theorem lz_load (hw : Region.wanted o (yielded ops a.tmps) = true) (x : Operand) (ho : o.op = .load 25 x) (g : Nat) (v : Vec) (hx : a.eval x = .pointer (some ⟨g, 0, none⟩)) (hE : E[i]? = some (.is (.agg (vecA v)))) (hm : (g, 25, vecA v) ∈ bs)
    (h : Lz ops W bs E Q (i + 1) rest (a.put o.dst (.agg (vecA v))) (F.ins i (.agg (vecA v)))) : Lz ops W bs E Q i (o :: rest) a F :=
  lz_is hw _ hE (fun w T => by
    obtain ⟨q, -⟩ := (T.blk _ _ _ hm).rules
    have hl := (T.blk _ _ _ hm).lt
    unfold execOp; rw [ho]; generalize a.eval = ρ at hx; simp [hx, go_sem, q]) h
theorem lz_neq (hw : Region.wanted o (yielded ops a.tmps) = true) (x y : Operand) (t : TypeId) (ho : o.op = .binOp .neq 25 x y t) (v : Vec) (hx : a.eval x = .agg (vecA v)) (hy : a.eval y = .agg (vecA v)) (hE : E[i]? = some (.is (.bool false)))
    (h : Lz ops W bs E Q (i + 1) rest (a.put o.dst (.bool false)) (F.ins i (.bool false))) : Lz ops W bs E Q i (o :: rest) a F :=
  lz_is hw _ hE (fun w _ => by unfold execOp; rw [ho]; generalize a.eval = ρ at hx hy; simp [hx, hy, go_sem]) h
theorem lz_two (hw : Region.wanted o (yielded ops a.tmps) = true) (x y : Operand) (ho : o.op = .buildSlice 22 2 #[(0, x), (1, y)]) (u v : Vec) (hx : a.eval x = .agg (vecA u)) (hy : a.eval y = .agg (vecA v)) (hE : E[i]? = some (.two u v))
    (h : ∀ z, Lz ops W bs E Q (i + 1) rest (a.put o.dst z) (F.ins i z)) : Lz ops W bs E Q i (o :: rest) a F := by
  refine loose_want hw (fun w hC _ => ?_) fun u _ => h u
  have e : (execOp a.eval o).run Try.prog w = .ok (.value (.slice (some ⟨w.heap.size, 0, none⟩) 2 2)) (w.alloc (.cells (twoCells u v) 25)) := by
    have e1 : execOp a.eval o = bs2 22 (a.eval x) (a.eval y) := by unfold execOp; rw [ho]; simp [bs2]
    rw [e1, hx, hy]
    exact run_bs2_vec u v w
  rw [e]
  refine ⟨fun v' hv' => (by simp only [tabT, hE] at hv'; cases hv'), hC.alloc _, (Below.refl _ _).alloc (Nat.le_refl _) _, ?_⟩
  simp only [tabR, hE]
  exact ⟨_, rfl, Blk.new _ _ _⟩
theorem lz_call (hw : Region.wanted o (yielded ops a.tmps) = true) (f : FuncId) (x : Operand) (k : Nat) (z : Value) (hx : a.eval x = z) (hk : needsB o k = true) (hF : F k z) (u v : Vec)
    (hEk : E[k]? = some (.two u v)) (r : Vec) (hE : E[i]? = some (.is (.agg (vecA r)))) (he : ∀ w, (execOp a.eval o).run Try.prog w = .ok (.enter f #[a.eval x]) w)
    (c : ∀ g w, w.heap[g]? = some (.cells (twoCells u v) 25 (0, 0)) → Calls Try.prog f #[.slice (some ⟨g, 0, none⟩) 2 2] w fun e w' => e = .returned (.agg (vecA r)) ∧ Below w.heap.size w w')
    (h : Lz ops W bs E Q (i + 1) rest (a.put o.dst (.agg (vecA r))) (F.ins i (.agg (vecA r)))) : Lz ops W bs E Q i (o :: rest) a F := by
  refine loose_want hw (fun w hC hR => ?_) fun u hu => ?_
  · obtain ⟨g, hz, hg⟩ : ∃ g, z = .slice (some ⟨g, 0, none⟩) 2 2 ∧ Blk w g 25 (twoCells u v) := by
      have := hR k z hF (needs_of hk)
      simpa only [tabR, hEk] using this
    subst hz
    have e : (execOp a.eval o).run Try.prog w = .ok (.enter f #[.slice (some ⟨g, 0, none⟩) 2 2]) w := by rw [he, hx]
    rw [e]
    refine (c g w hg).mono ?_
    rintro e w' ⟨rfl, hb⟩
    exact ⟨_, rfl, fun v' hv' => by simp only [tabT, hE] at hv'; cases hv'; rfl, hC.call hb, hb, by simp only [tabR, hE]⟩
  · have := hu (.agg (vecA r)) (by simp only [tabT, hE])
    subst this
    exact h
theorem run_join {a : Act} {dst : Option Tmp} {x : Operand} {ty : TypeId} {pos : String} {after : Array Edge} {guard : Option (Nat × Bool)} (w : World) :
    (execOp a.eval { dst, op := .call { callee := .value (.func 9), args := #[x], argTypes := #[22] }, type := ty, pos, after, guard }).run Try.prog w = .ok (.enter 9 #[a.eval x]) w := by
  simp [go_sem]
theorem run_meet {a : Act} {dst : Option Tmp} {x : Operand} {ty : TypeId} {pos : String} {after : Array Edge} {guard : Option (Nat × Bool)} (w : World) :
    (execOp a.eval { dst, op := .call { callee := .value (.func 10), args := #[x], argTypes := #[22] }, type := ty, pos, after, guard }).run Try.prog w = .ok (.enter 10 #[a.eval x]) w := by
  simp [go_sem]
end
end Go.Proofs.Ytlbdlmgcblmeeaa
