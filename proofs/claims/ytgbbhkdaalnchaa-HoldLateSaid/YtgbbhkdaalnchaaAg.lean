/-
  Values of many cells, read and stored whole; the rows of the document's ledger. No function of the program here.
-/
import Derived.Test.YtgbbhkdaalnchaaGC
import Derived.Test.YtgbbhkdaalnchaaFr
import Derived.Deep.MidRow
import Derived.Outline
namespace Go.Proofs.Ytgbbhkdaalnchaa
set_option linter.unusedVariables false
set_option linter.unusedSimpArgs false
open Go.RowKit Go
set_option maxRecDepth 100000

/-- The cells cs lie in block b from o on. -/
def Rng (w : World) (b o : Nat) (cs : Array Value) : Prop := ∀ j v, cs[j]? = some v → w.cell? ⟨b, o + j, none⟩ = some v
theorem Rng.at_ {w : World} {b o : Nat} {cs : Array Value} (h : Rng w b o cs) : w.rangeAt b o cs.toList := fun j v hv => h j v (by simpa using hv)
theorem Blk.rng {w : World} {g : Nat} {t : TypeId} {cs : Array Value} (h : Blk w g t cs) : Rng w g 0 cs := fun j v hv => by rw [Nat.zero_add, h.cell]; exact hv
/-- A part of a block. -/
theorem Blk.rngAt {w : World} {g o n : Nat} {t : TypeId} {cs : Array Value} (h : Blk w g t cs) (c : Array Value) (he : ∀ j v, c[j]? = some v → cs[o + j]? = some v) : Rng w g o c := fun j v hv => by rw [h.cell]; exact he j v hv
/-- A part of a row. -/
theorem Rd.rngAt {w : World} {B size n : Nat} {b o : Nat} {xs : List Value} (h : Rd w B size (some ⟨b, o, none⟩) n xs) (hn : 0 < n) (k : Nat) (c : Array Value) (he : ∀ j v, c[j]? = some v → xs[k + j]? = some v) : Rng w b (o + k) c := by
  obtain ⟨b', o', e, _, hc⟩ := h.2 hn
  cases e
  intro j v hv
  rw [Nat.add_assoc]
  exact hc _ _ (he j v hv)
section
variable {P : Program} {ops : Array Oper} {rest : List Oper} {op : Oper} {a : Act} {w : World} {Q : Exit → Act → World → Prop}
theorem wpList_load_arr (hgd : op.guard = none) (ty : TypeId) (x : Operand) (ho : op.op = .load ty x) (b o : Nat) (hx : a.eval x = .pointer (some ⟨b, o, none⟩)) (cs : Array Value) (d : TypeDesc) (hc : Rng w b o cs)
    (hu : P.underlying ty = some d) (hd : d.isRow = true) (hi : (P.info? ty).map (·.size) = some cs.size) (h : wpList P ops Q rest (a.put op.dst (.agg cs)) w) : wpList P ops Q (op :: rest) a w :=
  wpList_load_mid hgd ty x ho b o hx cs.toList d hc.at_ hu hd (by simpa using hi) (by simpa using h)
theorem run_load_arr (w : World) (b o : Nat) (ty : TypeId) (cs : Array Value) (d : TypeDesc) (hc : Rng w b o cs) (hu : P.underlying ty = some d) (hd : d.isRow = true) (hi : (P.info? ty).map (·.size) = some cs.size) :
    (Instr.loadAt ty (.pointer (some ⟨b, o, none⟩))).run P w = .ok (.agg cs) w := by
  have := run_loadAt_mid (P := P) w b o ty cs.toList d hc.at_ hu hd (by simpa using hi)
  simpa using this
end

/-- The fifty-four numbers of rights. -/
def rtA (f : Nat → Int) : Array Value := ((List.range 54).map fun i => Value.int .i64 (f i)).toArray
theorem rtA_size (f : Nat → Int) : (rtA f).size = 54 := by simp [rtA]
theorem rtA_get (f : Nat → Int) (k : Nat) (h : k < 54) : (rtA f)[k]? = some (.int .i64 (f k)) := by
  simp [rtA, h]
def fset (f : Nat → Int) (k : Nat) (x : Int) : Nat → Int := fun i => if i = k then x else f i
theorem rtA_set (f : Nat → Int) (k : Nat) (h : k < 54) (x : Int) : (rtA f).setIfInBounds k (.int .i64 x) = rtA (fset f k x) := by
  apply Array.ext_getElem?
  intro i
  rw [Array.getElem?_setIfInBounds]
  by_cases hik : k = i
  · subst hik
    rw [if_pos rfl, if_pos (by rw [rtA_size]; exact h), rtA_get _ _ h]
    simp [fset]
  · rw [if_neg hik]
    by_cases hi : i < 54
    · rw [rtA_get _ _ hi, rtA_get _ _ hi]
      simp [fset, Ne.symm hik]
    · rw [Array.getElem?_eq_none (by rw [rtA_size]; omega), Array.getElem?_eq_none (by rw [rtA_size]; omega)]
theorem rtA_cell (f : Nat → Int) : (rtA f).all (·.oneCell') = true := by
  rw [Array.all_eq_true_iff_forall_mem]
  intro v hv
  simp [rtA] at hv
  obtain ⟨i, _, rfl⟩ := hv
  rfl
theorem size_rt (f : Nat → Int) : (Try.prog.info? 110).map (·.size) = some (rtA f).size := by rw [rtA_size]; kernel_rfl
def z0 : Nat → Int := fun _ => 0
@[go_sem] theorem rtA_zero : #[.int .i64 0, .int .i64 0, .int .i64 0, .int .i64 0, .int .i64 0, .int .i64 0, .int .i64 0, .int .i64 0, .int .i64 0, .int .i64 0, .int .i64 0, .int .i64 0, .int .i64 0, .int .i64 0, .int .i64 0, .int .i64 0, .int .i64 0, .int .i64 0, .int .i64 0, .int .i64 0, .int .i64 0, .int .i64 0, .int .i64 0, .int .i64 0, .int .i64 0, .int .i64 0, .int .i64 0, .int .i64 0, .int .i64 0, .int .i64 0, .int .i64 0, .int .i64 0, .int .i64 0, .int .i64 0, .int .i64 0, .int .i64 0, .int .i64 0, .int .i64 0, .int .i64 0, .int .i64 0, .int .i64 0, .int .i64 0, .int .i64 0, .int .i64 0, .int .i64 0, .int .i64 0, .int .i64 0, .int .i64 0, .int .i64 0, .int .i64 0, .int .i64 0, .int .i64 0, .int .i64 0, .int .i64 0] = rtA z0 := by kernel_rfl
/-- Rights of nothing. -/
def bR0 : Sem Next := do pure (.value (← Instr.build 110 #[]))
section
variable (ρ : Operand → Value) (dst : Option Tmp) (ty : TypeId) (pos : String) (after : Array Edge) (guard : Option (Nat × Bool))
@[go_sem ↓] theorem execOp_bR0 : execOp ρ { dst, op := .build 110 #[], type := ty, pos, after, guard } = bR0 := by simp [execOp, bR0]
end
@[go_sem] theorem run_bR0 (w : World) : bR0.run Try.prog w = .ok (.value (.agg (rtA z0))) w := by kernel_rfl
section
variable {P : Program} {ops : Array Oper} {rest : List Oper} {op : Oper} {a : Act} {w : World} {Q : Exit → Act → World → Prop}
/-- A store of many cells into a block that is known whole. -/
theorem run_storeVar_arr (w : World) (g o : Nat) (t ty : TypeId) (old cells : Array Value) (hg : w.heap[g]? = some (.cells old t (0, 0))) (hi : (P.info? ty).map (·.size) = some cells.size)
    (ho : o + cells.size ≤ old.size) (h1 : cells.all (·.oneCell') = true) :
    (storeVar ty ⟨g, o, none⟩ (.agg cells)).run P w = .ok () (w.setRow g (old.toList.take o ++ cells.toList ++ old.toList.drop (o + cells.size)).toArray) := by
  have := run_storeCells_at (P := P) g o t cells.toList 0 old w hg (by simpa using ho) (fun v hv => (Array.all_eq_true_iff_forall_mem.1 h1) v (by simpa using hv))
  cases hq : P.info? ty with
  | none => simp [hq] at hi
  | some i =>
    have hs : cells.size = i.size := by simp [hq] at hi; omega
    rw [Nat.add_zero, Array.length_toList] at this
    rw [hs] at this
    simp [storeVar, sizeOf, typeInfo, hq, Value.cells, hs, this]
theorem wpList_store_arr (hgd : op.guard = none) (ty : TypeId) (x y : Operand) (ho : op.op = .store ty x y)
    (g off : Nat) (cells : Array Value) (hx : a.eval x = .pointer (some ⟨g, off, none⟩)) (hy : a.eval y = .agg cells)
    (t : TypeId) (old : Array Value) (hg : w.heap[g]? = some (.cells old t (0, 0))) (hi : (P.info? ty).map (·.size) = some cells.size)
    (hold : off + cells.size ≤ old.size) (h1 : cells.all (·.oneCell') = true)
    (h : wpList P ops Q rest (a.put op.dst undef) (w.setRow g (old.toList.take off ++ cells.toList ++ old.toList.drop (off + cells.size)).toArray)) : wpList P ops Q (op :: rest) a w := by
  refine wpList_plain hgd fun _ hK => ?_
  unfold Oper.wp execOp
  simp only [ho, hx, hy, Instr.storeAt, Instr.sureAddr, Sem.run_bind, Sem.run_pure, Result.andThen_ok, run_storeVar_arr w g off t ty old cells hg hi hold h1]
  exact hK _ _ h
/-- The whole block is stored into. -/
theorem wpList_store_whole (hgd : op.guard = none) (ty : TypeId) (x y : Operand) (ho : op.op = .store ty x y)
    (g : Nat) (cells : Array Value) (hx : a.eval x = .pointer (some ⟨g, 0, none⟩)) (hy : a.eval y = .agg cells)
    (t : TypeId) (old : Array Value) (hg : w.heap[g]? = some (.cells old t (0, 0))) (hi : (P.info? ty).map (·.size) = some cells.size)
    (hold : cells.size = old.size) (h1 : cells.all (·.oneCell') = true)
    (h : wpList P ops Q rest (a.put op.dst undef) (w.setRow g cells)) : wpList P ops Q (op :: rest) a w := by
  refine wpList_store_arr hgd ty x y ho g 0 cells hx hy t old hg hi (by omega) h1 ?_
  have e : (old.toList.take 0 ++ cells.toList ++ old.toList.drop (0 + cells.size)).toArray = cells := by
    rw [hold, Nat.zero_add, List.drop_of_length_le (by simp)]; simp
  rw [e]; exact h
end
/-- A block laid anew. -/
theorem Trk.lay {w0 w : World} {g : Nat} {t : TypeId} {cs : Array Value} {bs : List (Nat × TypeId × Array Value)} (h : Trk w0 w ((g, t, cs) :: bs)) (hB : w0.heap.size ≤ g) (hp : Nes g bs) (cs' : Array Value) : Trk w0 (w.setRow g cs') ((g, t, cs') :: bs) := by
  have hb := h.blk _ _ _ List.mem_cons_self
  refine ⟨⟨h.below.os, h.below.tape, h.below.output, Nat.le_trans h.below.size (by simp [World.setRow]), fun k hk => ?_⟩, fun g' t' cs2 hm => ?_⟩
  · rw [setRow_other w g k _ (by omega)]
    exact h.below.block k hk
  · rcases List.mem_cons.1 hm with e | hm
    · cases e
      exact setRow_heap w g _ _ t _ hb
    · have h2 := h.blk _ _ _ (List.mem_cons_of_mem _ hm)
      unfold Blk at h2 ⊢
      rw [setRow_other w g g' _ (hp.out _ _ _ hm)]
      exact h2
end Go.Proofs.Ytgbbhkdaalnchaa
