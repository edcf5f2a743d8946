/-
  Slices of messages.
-/
import Derived.Test.YtnhjphmcdamoaaaMw
import Derived.Test.YtnhjphmcdamoaaaGC
namespace Go.Proofs.Ytnhjphmcdamoaaa
set_option linter.unusedVariables false
set_option linter.unusedSimpArgs false
open Go.RowKit Go

/-- The events of a message's cells are a slice. -/
def Mc.sl (x : Mc) : Prop := ∃ A n c, x.s = .slice A n c
/-- The cells of messages. -/
def mcells (L : List Mc) : List Value := L.flatMap fun x => (mcA x).toList
theorem mcells_length (L : List Mc) : (mcells L).length = L.length * 12 := by
  induction L with
  | nil => rfl
  | cons v L ih => simp only [mcells, List.flatMap_cons, List.length_append, List.length_cons] at ih ⊢; rw [ih]; simp [mcA]; omega
theorem mcells_get (L : List Mc) (i : Nat) (x : Mc) (h : L[i]? = some x) (j : Nat) (hj : j < 12) : (mcells L)[i * 12 + j]? = (mcA x)[j]? := by
  induction L generalizing i with
  | nil => simp at h
  | cons u L ih =>
    have hl : ((mcA u).toList).length = 12 := rfl
    cases i with
    | zero =>
      simp at h; subst h
      simp only [mcells, List.flatMap_cons]
      rw [List.getElem?_append_left (by rw [hl]; omega), Nat.zero_mul, Nat.zero_add, Array.getElem?_toList]
    | succ i =>
      have h' : L[i]? = some x := by simpa using h
      have := ih i h'
      simp only [mcells, List.flatMap_cons] at this ⊢
      rw [List.getElem?_append_right (by rw [hl]; omega), hl, show (i + 1) * 12 + j - 12 = i * 12 + j from by omega]
      exact this
theorem mcells_append (L M : List Mc) : mcells (L ++ M) = mcells L ++ mcells M := by simp [mcells]
theorem mcells_one (x : Mc) : mcells [x] = (mcA x).toList := by simp [mcells]
theorem mcells_take (L : List Mc) (k : Nat) (hk : k ≤ L.length) : (mcells L).take (k * 12) = mcells (L.take k) := by
  have e : mcells L = mcells (L.take k) ++ mcells (L.drop k) := by rw [← mcells_append, List.take_append_drop]
  have hl : (mcells (L.take k)).length = k * 12 := by rw [mcells_length, List.length_take]; congr 1; omega
  rw [e, ← hl, List.take_left]
theorem mcells_drop (L : List Mc) (k : Nat) (hk : k ≤ L.length) : (mcells L).drop (k * 12) = mcells (L.drop k) := by
  have e : mcells L = mcells (L.take k) ++ mcells (L.drop k) := by rw [← mcells_append, List.take_append_drop]
  have hl : (mcells (L.take k)).length = k * 12 := by rw [mcells_length, List.length_take]; congr 1; omega
  rw [e, ← hl, List.drop_left]
theorem mcells_cell {L : List Mc} (hs : ∀ x ∈ L, x.sl) : ∀ u ∈ mcells L, u.oneCell' = true := by
  intro y hy
  unfold mcells at hy
  obtain ⟨x, hx, hy⟩ := List.mem_flatMap.1 hy
  obtain ⟨A, n, c, h⟩ := hs x hx
  simp only [mcA_toList, List.mem_cons, List.mem_nil_iff, or_false] at hy
  rcases hy with rfl | rfl | rfl | rfl | rfl | rfl | rfl | rfl | rfl | rfl | rfl | rfl
  all_goals first | rfl | (rw [h]; rfl)
/-- A slice of messages that reads as a list. -/
abbrev MRows (w : World) (B : Nat) (A : Option Addr) (L : List Mc) : Prop := Rd w B 12 A L.length (mcells L)
/-- Twelve cells that hold a message. -/
@[reducible] def McAt (w : World) (b o : Nat) (x : Mc) : Prop :=
  w.cell? ⟨b, o, none⟩ = some (.int .u8 x.k) ∧ w.cell? ⟨b, o + 1, none⟩ = some (.int .i64 x.f) ∧ w.cell? ⟨b, o + 2, none⟩ = some (.int .i64 x.t) ∧ w.cell? ⟨b, o + 3, none⟩ = some (.int .u64 x.d.v0) ∧ w.cell? ⟨b, o + 4, none⟩ = some (.int .u64 x.d.v1) ∧ w.cell? ⟨b, o + 5, none⟩ = some (.int .u64 x.d.v2) ∧ w.cell? ⟨b, o + 6, none⟩ = some (.int .u64 x.d.v3) ∧ w.cell? ⟨b, o + 7, none⟩ = some (.int .u64 x.d.v4) ∧ w.cell? ⟨b, o + 8, none⟩ = some (.int .u64 x.d.v5) ∧ w.cell? ⟨b, o + 9, none⟩ = some x.s ∧ w.cell? ⟨b, o + 10, none⟩ = some (.int .u64 x.n) ∧ w.cell? ⟨b, o + 11, none⟩ = some (.int .i64 x.a)
theorem mcAt_of {w : World} {b o : Nat} {x : Mc} (h : ∀ j, j < 12 → w.cell? ⟨b, o + j, none⟩ = (mcA x)[j]?) : McAt w b o x :=
  ⟨h 0 (by omega), h 1 (by omega), h 2 (by omega), h 3 (by omega), h 4 (by omega), h 5 (by omega), h 6 (by omega), h 7 (by omega), h 8 (by omega), h 9 (by omega), h 10 (by omega), h 11 (by omega)⟩
theorem MRows.at_ {w : World} {B : Nat} {A : Option Addr} {L : List Mc} (h : MRows w B A L) {i : Nat} {x : Mc} (hi : L[i]? = some x) : ∃ b o, A = some ⟨b, o, none⟩ ∧ b < B ∧ McAt w b (o + i * 12) x := by
  have hlt : i < L.length := (List.getElem?_eq_some_iff.1 hi).1
  obtain ⟨b, o, hA, hb, hc⟩ := h.2 (by omega)
  refine ⟨b, o, hA, hb, mcAt_of fun j hj => ?_⟩
  have h1 := mcells_get L i x hi j hj
  obtain ⟨v, hv⟩ : ∃ v, (mcA x)[j]? = some v := ⟨(mcA x)[j]'(by rw [mcA_size]; exact hj), Array.getElem?_eq_getElem _⟩
  rw [hv] at h1 ⊢
  rw [Nat.add_assoc]
  exact hc _ _ h1
theorem infoMsg : (Try.prog.info? 48).map (fun i => (i.zero, i.size, i.bytes)) = some (some (.agg #[.int .u8 0, .int .i64 0, .int .i64 0, .int .u64 0, .int .u64 0, .int .u64 0, .int .u64 0, .int .u64 0, .int .u64 0, .slice none 0 0, .int .u64 0, .int .i64 0]), 12, 112) := by kernel_rfl
/-- append onto a row of messages of the call's own. -/
theorem append_mcs {ops : Array Oper} {rest : List Oper} {o : Oper} {a : Act} {Q : Exit → Act → World → Prop} (w : World) (hgd : o.guard = none) (s x : Operand)
    (ho : o.op = .call { callee := .builtin .append, args := #[s, x], argTypes := #[60, 60] })
    (base : Nat) (v : Value) (L M : List Mc) (m : Nat) (hm : M.length = m) (hsl : ∀ x ∈ M, x.sl) (hs : a.eval s = v) (hown : w.ownsRow base 48 12 v L.length (mcells L)) (A : Option Addr) (c B : Nat) (hx : a.eval x = .slice A m c) (hM : MRows w B A M)
    (hn : L.length + M.length ≤ 1000000) (hbase : base ≤ w.heap.size)
    (h : ∀ v' w', w'.ownsRow base 48 12 v' (L ++ M).length (mcells (L ++ M)) → Below base w w' → w.grownBy w' v.ownBlock → (v'.ownBlock = v.ownBlock ∨ ∀ b, v'.ownBlock = some b → w.heap.size ≤ b) → wpList Try.prog ops Q rest (a.put o.dst v') w') : wpList Try.prog ops Q (o :: rest) a w := by
  subst hm
  obtain ⟨i0, hi0, hz0, hz1, hz2⟩ := info_parts infoMsg
  obtain ⟨v', w', hrun, h2, h3, h4, h5⟩ := run_append_ownF (P := Try.prog) w base 60 o.type 48 i0 (.agg #[.int .u8 0, .int .i64 0, .int .i64 0, .int .u64 0, .int .u64 0, .int .u64 0, .int .u64 0, .int .u64 0, .int .u64 0, .slice none 0 0, .int .u64 0, .int .i64 0]) 12 112 Try.underlying60 hi0 hz0 hz1 hz2 rfl (by decide) v L.length (mcells L) hown B A M.length c (mcells M) hM (mcells_cell hsl) (by unfold maxLen; omega) (by omega) hbase
  refine wpList_plain hgd fun _ hK => ?_
  unfold Oper.wp execOp
  simp only [ho, resolve, invoke, builtin, Sem.run_bind, Sem.run_pure, Result.andThen_ok, List.map_toArray, List.map_cons, List.map_nil, hs, hx, hrun]
  rw [← mcells_append] at h2
  exact hK _ _ (h v' w' (by rw [List.length_append]; exact h2) h3 h4 h5)
end Go.Proofs.Ytnhjphmcdamoaaa
