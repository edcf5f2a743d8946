/-
  Slices of events.
  A new slice of events and a number, answered.
-/
import Derived.Test.YtgbbhkdaalnchaaEv
namespace Go.Proofs.Ytgbbhkdaalnchaa
set_option linter.unusedVariables false
set_option linter.unusedSimpArgs false
open Go.RowKit

/-- The cells of events. -/
def ecells (L : List Ev) : List Value := L.flatMap fun e => (evA e).toList
theorem ecells_length (L : List Ev) : (ecells L).length = L.length * 14 := by
  induction L with
  | nil => rfl
  | cons v L ih => simp only [ecells, List.flatMap_cons, List.length_append, List.length_cons] at ih ⊢; rw [ih]; simp [evA]; omega
theorem ecells_get (L : List Ev) (i : Nat) (e : Ev) (h : L[i]? = some e) (j : Nat) (hj : j < 14) : (ecells L)[i * 14 + j]? = (evA e)[j]? := by
  induction L generalizing i with
  | nil => simp at h
  | cons u L ih =>
    have hl : ((evA u).toList).length = 14 := rfl
    cases i with
    | zero =>
      simp at h; subst h
      simp only [ecells, List.flatMap_cons]
      rw [List.getElem?_append_left (by rw [hl]; omega), Nat.zero_mul, Nat.zero_add, Array.getElem?_toList]
    | succ i =>
      have h' : L[i]? = some e := by simpa using h
      have := ih i h'
      simp only [ecells, List.flatMap_cons] at this ⊢
      rw [List.getElem?_append_right (by rw [hl]; omega), hl, show (i + 1) * 14 + j - 14 = i * 14 + j from by omega]
      exact this
theorem ecells_append (L M : List Ev) : ecells (L ++ M) = ecells L ++ ecells M := by simp [ecells]
/-- A slice of events that reads as a list. -/
abbrev ERows (w : World) (B : Nat) (A : Option Addr) (L : List Ev) : Prop := Rd w B 14 A L.length (ecells L)
/-- Fourteen cells that hold an event. -/
@[reducible] def EvAt (w : World) (b o : Nat) (e : Ev) : Prop :=
  w.cell? ⟨b, o, none⟩ = some (.int .i64 e.o) ∧ w.cell? ⟨b, o + 1, none⟩ = some (.int .u64 e.s) ∧ w.cell? ⟨b, o + 2, none⟩ = some (.int .u64 e.d.v0) ∧ w.cell? ⟨b, o + 3, none⟩ = some (.int .u64 e.d.v1) ∧ w.cell? ⟨b, o + 4, none⟩ = some (.int .u64 e.d.v2) ∧ w.cell? ⟨b, o + 5, none⟩ = some (.int .u64 e.d.v3) ∧ w.cell? ⟨b, o + 6, none⟩ = some (.int .u64 e.d.v4) ∧ w.cell? ⟨b, o + 7, none⟩ = some (.int .u64 e.d.v5) ∧ w.cell? ⟨b, o + 8, none⟩ = some (.int .u8 e.k) ∧ w.cell? ⟨b, o + 9, none⟩ = some (.int .u64 e.n) ∧ w.cell? ⟨b, o + 10, none⟩ = some (.int .i64 e.t) ∧ w.cell? ⟨b, o + 11, none⟩ = some (.int .i64 e.a) ∧ w.cell? ⟨b, o + 12, none⟩ = some (.int .u64 e.r) ∧ w.cell? ⟨b, o + 13, none⟩ = some (.int .u64 e.f)
theorem evAt_of {w : World} {b o : Nat} {e : Ev} (h : ∀ j, j < 14 → w.cell? ⟨b, o + j, none⟩ = (evA e)[j]?) : EvAt w b o e :=
  ⟨h 0 (by omega), h 1 (by omega), h 2 (by omega), h 3 (by omega), h 4 (by omega), h 5 (by omega), h 6 (by omega), h 7 (by omega), h 8 (by omega), h 9 (by omega), h 10 (by omega), h 11 (by omega), h 12 (by omega), h 13 (by omega)⟩
theorem ERows.at_ {w : World} {B : Nat} {A : Option Addr} {L : List Ev} (h : ERows w B A L) {i : Nat} {e : Ev} (hi : L[i]? = some e) : ∃ b o, A = some ⟨b, o, none⟩ ∧ b < B ∧ EvAt w b (o + i * 14) e := by
  have hlt : i < L.length := (List.getElem?_eq_some_iff.1 hi).1
  obtain ⟨b, o, hA, hb, hc⟩ := h.2 (by omega)
  refine ⟨b, o, hA, hb, evAt_of fun j hj => ?_⟩
  have h1 := ecells_get L i e hi j hj
  obtain ⟨v, hv⟩ : ∃ v, (evA e)[j]? = some v := ⟨(evA e)[j]'(by rw [evA_size]; exact hj), Array.getElem?_eq_getElem _⟩
  rw [hv] at h1 ⊢
  rw [Nat.add_assoc]
  exact hc _ _ h1
theorem infoEv : (Try.prog.info? 32).map (fun i => (i.zero, i.size, i.bytes)) = some (some (.agg #[.int .i64 0, .int .u64 0, .int .u64 0, .int .u64 0, .int .u64 0, .int .u64 0, .int .u64 0, .int .u64 0, .int .u8 0, .int .u64 0, .int .i64 0, .int .i64 0, .int .u64 0, .int .u64 0]), 14, 112) := by kernel_rfl
theorem append_evs {ops : Array Oper} {rest : List Oper} {o : Oper} {a : Act} {Q : Exit → Act → World → Prop} (w : World) (hgd : o.guard = none) (s x : Operand)
    (ho : o.op = .call { callee := .builtin .append, args := #[s, x], argTypes := #[49, 49] })
    (base : Nat) (v : Value) (L M : List Ev) (hs : a.eval s = v) (hown : w.ownsRow base 32 14 v L.length (ecells L)) (A : Option Addr) (c B : Nat) (hx : a.eval x = .slice A M.length c) (hM : ERows w B A M)
    (hn : L.length + M.length ≤ 1000000) (hbase : base ≤ w.heap.size)
    (h : ∀ v' w', w'.ownsRow base 32 14 v' (L ++ M).length (ecells (L ++ M)) → Below base w w' → wpList Try.prog ops Q rest (a.put o.dst v') w') : wpList Try.prog ops Q (o :: rest) a w := by
  obtain ⟨i0, hi0, hz0, hz1, hz2⟩ := info_parts infoEv
  refine wpList_append_rd w hgd s x 49 ho base 32 i0 (.agg #[.int .i64 0, .int .u64 0, .int .u64 0, .int .u64 0, .int .u64 0, .int .u64 0, .int .u64 0, .int .u64 0, .int .u8 0, .int .u64 0, .int .i64 0, .int .i64 0, .int .u64 0, .int .u64 0]) 14 112 Try.underlying49 hi0 hz0 hz1 hz2 rfl (by decide) v L.length (ecells L) hs hown B A M.length c (ecells M) hx hM ?_ ?_ ?_ hbase ?_
  · intro y hy
    unfold ecells at hy
    obtain ⟨v, _, hy⟩ := List.mem_flatMap.1 hy
    simp only [evA_toList, List.mem_cons, List.mem_nil_iff, or_false] at hy
    rcases hy with rfl | rfl | rfl | rfl | rfl | rfl | rfl | rfl | rfl | rfl | rfl | rfl | rfl | rfl <;> rfl
  · unfold maxLen; omega
  · omega
  · intro v' w' hown' hb
    refine h v' w' ?_ hb
    rw [ecells_append, List.length_append]
    exact hown'
theorem ecells_one (e : Ev) : ecells [e] = (evA e).toList := by simp [ecells]
theorem rd_blk {w : World} {g : Nat} {t : TypeId} {e : Ev} (h : Blk w g t (evA e)) : ERows w (g + 1) (some ⟨g, 0, none⟩) [e] := by
  refine ⟨ecells_length _, fun _ => ⟨g, 0, rfl, by omega, fun j u hu => ?_⟩⟩
  rw [ecells_one, Array.getElem?_toList] at hu
  rw [h.cell, Nat.zero_add, hu]
theorem append_ev {ops : Array Oper} {rest : List Oper} {o : Oper} {a : Act} {Q : Exit → Act → World → Prop} (w : World) (hgd : o.guard = none) (s x : Operand)
    (ho : o.op = .call { callee := .builtin .append, args := #[s, x], argTypes := #[49, 49] })
    (base : Nat) (v : Value) (L : List Ev) (e : Ev) (hs : a.eval s = v) (hown : w.ownsRow base 32 14 v L.length (ecells L)) (g : Nat) (hx : a.eval x = .slice (some ⟨g, 0, none⟩) 1 1) (hg : Blk w g 32 (evA e))
    (hn : L.length + 1 ≤ 1000000) (hbase : base ≤ w.heap.size)
    (h : ∀ v' w', w'.ownsRow base 32 14 v' (L ++ [e]).length (ecells (L ++ [e])) → Below base w w' → wpList Try.prog ops Q rest (a.put o.dst v') w') : wpList Try.prog ops Q (o :: rest) a w :=
  append_evs w hgd s x ho base v L [e] hs hown _ 1 (g + 1) hx (rd_blk hg) hn hbase h
section
variable (ρ : Operand → Value) (dst : Option Tmp) (x y : Operand) (ty : TypeId) (pos : String) (after : Array Edge) (guard : Option (Nat × Bool))
@[go_sem ↓] theorem execOp_bs1_ev : execOp ρ { dst, op := .buildSlice 49 1 #[(0, x)], type := ty, pos, after, guard } = bs1 49 (ρ x) := by simp [execOp, bs1]
@[go_sem ↓] theorem execOp_bs0_ev : execOp ρ { dst, op := .buildSlice 49 0 #[], type := ty, pos, after, guard } = bs0 49 := execOp_bs0 ..
end
@[go_sem] theorem run_bs1_ev (e : Ev) (w : World) : (bs1 49 (.agg (evA e))).run Try.prog w = .ok (.value (.slice (some ⟨w.heap.size, 0, none⟩) 1 1)) (w.alloc (.cells (evA e) 32)) := by kernel_rfl
@[go_sem] theorem run_bs0_ev (w : World) : (bs0 49).run Try.prog w = .ok (.value (.slice (some ⟨w.heap.size, 0, none⟩) 0 0)) (w.alloc (.cells #[] 32)) := by kernel_rfl
end Go.Proofs.Ytgbbhkdaalnchaa
namespace Go.Proofs.Ytgbbhkdaalnchaa
set_option linter.unusedVariables false
set_option linter.unusedSimpArgs false
open Go.RowKit

/-- A new slice of events and a number are answered. -/
def GivesEI (l : List Ev) (n : Int) (w : World) (e : Ending) (w' : World) : Prop := ∃ u, e = .returned (.tuple #[u, .int .i64 n]) ∧ w'.ownsRow w.heap.size 32 14 u l.length (ecells l) ∧ Below w.heap.size w w'
end Go.Proofs.Ytgbbhkdaalnchaa
