/-
  Slices of events.
  Two rows of the call's own, of different elements: an append onto one leaves the other alone.
  Appends in a region in which rows of the call's own are appended to (Sep): the row that is consumed, the row that is read. No program here but the bytes' type.
-/
import Derived.Test.YtnhjphmcdamoaaaEv
import Derived.Test.YtnhjphmcdamoaaaByt
import Derived.Test.YtnhjphmcdamoaaaGA
import Derived.Great.BuildSlice
namespace Go.Proofs.Ytnhjphmcdamoaaa
set_option linter.unusedVariables false
set_option linter.unusedSimpArgs false
open Go.RowKit

/-- The cells of events. -/
def ecells (L : List Ev) : List Value := L.flatMap fun e => (evA e).toList
theorem ecells_length (L : List Ev) : (ecells L).length = L.length * 14 := by
  induction L with
  | nil => rfl
  | cons v L ih => simp only [ecells, List.flatMap_cons, List.length_append, List.length_cons] at ih ⊢; rw [ih]; simp [evA]; omega
theorem ecells_get (L : List Ev) (i : Nat) (e : Ev) (h : L[i]? = some e) (j : Nat) (hj : j < 14) : (ecells L)[i * 14 + j]? = (evA e)[j]? := by
  induction L generalizing i with
  | nil => simp at h
  | cons u L ih =>
    have hl : ((evA u).toList).length = 14 := rfl
    cases i with
    | zero =>
      simp at h; subst h
      simp only [ecells, List.flatMap_cons]
      rw [List.getElem?_append_left (by rw [hl]; omega), Nat.zero_mul, Nat.zero_add, Array.getElem?_toList]
    | succ i =>
      have h' : L[i]? = some e := by simpa using h
      have := ih i h'
      simp only [ecells, List.flatMap_cons] at this ⊢
      rw [List.getElem?_append_right (by rw [hl]; omega), hl, show (i + 1) * 14 + j - 14 = i * 14 + j from by omega]
      exact this
theorem ecells_append (L M : List Ev) : ecells (L ++ M) = ecells L ++ ecells M := by simp [ecells]
/-- A slice of events that reads as a list. -/
abbrev ERows (w : World) (B : Nat) (A : Option Addr) (L : List Ev) : Prop := Rd w B 14 A L.length (ecells L)
/-- Fourteen cells that hold an event. -/
@[reducible] def EvAt (w : World) (b o : Nat) (e : Ev) : Prop :=
  w.cell? ⟨b, o, none⟩ = some (.int .i64 e.o) ∧ w.cell? ⟨b, o + 1, none⟩ = some (.int .u64 e.s) ∧ w.cell? ⟨b, o + 2, none⟩ = some (.int .u64 e.d.v0) ∧ w.cell? ⟨b, o + 3, none⟩ = some (.int .u64 e.d.v1) ∧ w.cell? ⟨b, o + 4, none⟩ = some (.int .u64 e.d.v2) ∧ w.cell? ⟨b, o + 5, none⟩ = some (.int .u64 e.d.v3) ∧ w.cell? ⟨b, o + 6, none⟩ = some (.int .u64 e.d.v4) ∧ w.cell? ⟨b, o + 7, none⟩ = some (.int .u64 e.d.v5) ∧ w.cell? ⟨b, o + 8, none⟩ = some (.int .u8 e.k) ∧ w.cell? ⟨b, o + 9, none⟩ = some (.int .u64 e.n) ∧ w.cell? ⟨b, o + 10, none⟩ = some (.int .i64 e.t) ∧ w.cell? ⟨b, o + 11, none⟩ = some (.int .i64 e.a) ∧ w.cell? ⟨b, o + 12, none⟩ = some (.int .u64 e.r) ∧ w.cell? ⟨b, o + 13, none⟩ = some (.int .u64 e.f)
theorem evAt_of {w : World} {b o : Nat} {e : Ev} (h : ∀ j, j < 14 → w.cell? ⟨b, o + j, none⟩ = (evA e)[j]?) : EvAt w b o e :=
  ⟨h 0 (by omega), h 1 (by omega), h 2 (by omega), h 3 (by omega), h 4 (by omega), h 5 (by omega), h 6 (by omega), h 7 (by omega), h 8 (by omega), h 9 (by omega), h 10 (by omega), h 11 (by omega), h 12 (by omega), h 13 (by omega)⟩
theorem ERows.at_ {w : World} {B : Nat} {A : Option Addr} {L : List Ev} (h : ERows w B A L) {i : Nat} {e : Ev} (hi : L[i]? = some e) : ∃ b o, A = some ⟨b, o, none⟩ ∧ b < B ∧ EvAt w b (o + i * 14) e := by
  have hlt : i < L.length := (List.getElem?_eq_some_iff.1 hi).1
  obtain ⟨b, o, hA, hb, hc⟩ := h.2 (by omega)
  refine ⟨b, o, hA, hb, evAt_of fun j hj => ?_⟩
  have h1 := ecells_get L i e hi j hj
  obtain ⟨v, hv⟩ : ∃ v, (evA e)[j]? = some v := ⟨(evA e)[j]'(by rw [evA_size]; exact hj), Array.getElem?_eq_getElem _⟩
  rw [hv] at h1 ⊢
  rw [Nat.add_assoc]
  exact hc _ _ h1
theorem infoEv : (Try.prog.info? 68).map (fun i => (i.zero, i.size, i.bytes)) = some (some (.agg #[.int .i64 0, .int .u64 0, .int .u64 0, .int .u64 0, .int .u64 0, .int .u64 0, .int .u64 0, .int .u64 0, .int .u8 0, .int .u64 0, .int .i64 0, .int .i64 0, .int .u64 0, .int .u64 0]), 14, 112) := by kernel_rfl
theorem append_evs {ops : Array Oper} {rest : List Oper} {o : Oper} {a : Act} {Q : Exit → Act → World → Prop} (w : World) (hgd : o.guard = none) (s x : Operand)
    (ho : o.op = .call { callee := .builtin .append, args := #[s, x], argTypes := #[46, 46] })
    (base : Nat) (v : Value) (L M : List Ev) (hs : a.eval s = v) (hown : w.ownsRow base 68 14 v L.length (ecells L)) (A : Option Addr) (c B : Nat) (hx : a.eval x = .slice A M.length c) (hM : ERows w B A M)
    (hn : L.length + M.length ≤ 1000000) (hbase : base ≤ w.heap.size)
    (h : ∀ v' w', w'.ownsRow base 68 14 v' (L ++ M).length (ecells (L ++ M)) → Below base w w' → wpList Try.prog ops Q rest (a.put o.dst v') w') : wpList Try.prog ops Q (o :: rest) a w := by
  obtain ⟨i0, hi0, hz0, hz1, hz2⟩ := info_parts infoEv
  refine wpList_append_rd w hgd s x 46 ho base 68 i0 (.agg #[.int .i64 0, .int .u64 0, .int .u64 0, .int .u64 0, .int .u64 0, .int .u64 0, .int .u64 0, .int .u64 0, .int .u8 0, .int .u64 0, .int .i64 0, .int .i64 0, .int .u64 0, .int .u64 0]) 14 112 Try.underlying46 hi0 hz0 hz1 hz2 rfl (by decide) v L.length (ecells L) hs hown B A M.length c (ecells M) hx hM ?_ ?_ ?_ hbase ?_
  · intro y hy
    unfold ecells at hy
    obtain ⟨v, _, hy⟩ := List.mem_flatMap.1 hy
    simp only [evA_toList, List.mem_cons, List.mem_nil_iff, or_false] at hy
    rcases hy with rfl | rfl | rfl | rfl | rfl | rfl | rfl | rfl | rfl | rfl | rfl | rfl | rfl | rfl <;> rfl
  · unfold maxLen; omega
  · omega
  · intro v' w' hown' hb
    refine h v' w' ?_ hb
    rw [ecells_append, List.length_append]
    exact hown'
theorem ecells_one (e : Ev) : ecells [e] = (evA e).toList := by simp [ecells]
theorem rd_blk {w : World} {g : Nat} {t : TypeId} {e : Ev} (h : Blk w g t (evA e)) : ERows w (g + 1) (some ⟨g, 0, none⟩) [e] := by
  refine ⟨ecells_length _, fun _ => ⟨g, 0, rfl, by omega, fun j u hu => ?_⟩⟩
  rw [ecells_one, Array.getElem?_toList] at hu
  rw [h.cell, Nat.zero_add, hu]
theorem append_ev {ops : Array Oper} {rest : List Oper} {o : Oper} {a : Act} {Q : Exit → Act → World → Prop} (w : World) (hgd : o.guard = none) (s x : Operand)
    (ho : o.op = .call { callee := .builtin .append, args := #[s, x], argTypes := #[46, 46] })
    (base : Nat) (v : Value) (L : List Ev) (e : Ev) (hs : a.eval s = v) (hown : w.ownsRow base 68 14 v L.length (ecells L)) (g : Nat) (hx : a.eval x = .slice (some ⟨g, 0, none⟩) 1 1) (hg : Blk w g 68 (evA e))
    (hn : L.length + 1 ≤ 1000000) (hbase : base ≤ w.heap.size)
    (h : ∀ v' w', w'.ownsRow base 68 14 v' (L ++ [e]).length (ecells (L ++ [e])) → Below base w w' → wpList Try.prog ops Q rest (a.put o.dst v') w') : wpList Try.prog ops Q (o :: rest) a w :=
  append_evs w hgd s x ho base v L [e] hs hown _ 1 (g + 1) hx (rd_blk hg) hn hbase h
section
variable (ρ : Operand → Value) (dst : Option Tmp) (x y : Operand) (ty : TypeId) (pos : String) (after : Array Edge) (guard : Option (Nat × Bool))
@[go_sem ↓] theorem execOp_bs1_ev : execOp ρ { dst, op := .buildSlice 46 1 #[(0, x)], type := ty, pos, after, guard } = bs1 46 (ρ x) := by simp [execOp, bs1]
@[go_sem ↓] theorem execOp_bs0_ev : execOp ρ { dst, op := .buildSlice 46 0 #[], type := ty, pos, after, guard } = bs0 46 := execOp_bs0 ..
end
@[go_sem] theorem run_bs1_ev (e : Ev) (w : World) : (bs1 46 (.agg (evA e))).run Try.prog w = .ok (.value (.slice (some ⟨w.heap.size, 0, none⟩) 1 1)) (w.alloc (.cells (evA e) 68)) := by kernel_rfl
@[go_sem] theorem run_bs0_ev (w : World) : (bs0 46).run Try.prog w = .ok (.value (.slice (some ⟨w.heap.size, 0, none⟩) 0 0)) (w.alloc (.cells #[] 68)) := by kernel_rfl
end Go.Proofs.Ytnhjphmcdamoaaa
namespace Go.Proofs.Ytnhjphmcdamoaaa
set_option linter.unusedVariables false
set_option linter.unusedSimpArgs false
open Go.RowKit

theorem own_apart {w : World} {b1 b2 : Nat} {e1 e2 : TypeId} {s1 s2 n1 n2 : Nat} {v1 v2 : Value} {xs1 xs2 : List Value} (h1 : w.ownsRow b1 e1 s1 v1 n1 xs1) (h2 : w.ownsRow b2 e2 s2 v2 n2 xs2) (he : e1 ≠ e2) : v1.ownBlock = none ∨ v1.ownBlock ≠ v2.ownBlock := by
  rcases h1.2 with ⟨rfl, _⟩ | ⟨g, cap, cur, rfl, _, hg, _⟩
  · exact .inl rfl
  · rcases h2.2 with ⟨rfl, _⟩ | ⟨g', cap', cur', rfl, _, hg', _⟩
    · exact .inr (by simp [Value.ownBlock])
    · refine .inr fun e => ?_
      obtain rfl : g = g' := by simpa [Value.ownBlock] using e
      rw [hg] at hg'
      injection hg' with h3
      injection h3 with _ h4
      exact he h4
section
variable {P : Program} (w : World)
/-- append of a whole slice, nil or not, onto a row of the call's own. -/
theorem run_append_rdG (base : Nat) (t ty e : TypeId) (i : TypeInfo) (z : Value) (size bytes : Nat) (ht : P.underlying t = some (.slice e)) (hi : P.info? e = some i) (hz : i.zero = some z)
    (hsize : i.size = size) (hby : i.bytes = bytes) (hzs : z.cells.size = size) (hsz : 0 < size)
    (v : Value) (n : Nat) (xs : List Value) (hown : w.ownsRow base e size v n xs) (B : Nat) (A : Option Addr) (m c : Nat) (news : List Value) (hr : Rd w B size A m news) (h1 : ∀ u ∈ news, u.oneCell' = true)
    (h63 : n + m ≤ maxLen) (hbytes : (n + m) * bytes ≤ 140737488355328) (hbase : base ≤ w.heap.size) :
    ∃ v' w', (Builtin.append_ #[t, t] ty #[v, .slice A m c]).run P w = .ok v' w' ∧ w'.ownsRow base e size v' (n + m) (xs ++ news) ∧ Below base w w' ∧ w.grownBy w' v.ownBlock := by
  have hgr : ∀ w', w.grownBy w' v.ownBlock → Below base w w' := fun w' hg => (Below.refl _ _).grown hg hbase fun k hk => (hown.lt k hk).1
  by_cases hm : m = 0
  · subst hm
    obtain rfl : news = [] := List.eq_nil_of_length_eq_zero (by simpa using hr.1)
    rcases A with _ | ad
    · refine ⟨v, w, ?_, by simpa using hown, Below.refl _ _, ⟨rfl, rfl, rfl, Nat.le_refl _, fun _ _ _ => rfl⟩⟩
      rcases hown.2 with ⟨rfl, rfl⟩ | ⟨g, cap, cur, rfl, _, _, hnc, _⟩
      · simp [Builtin.append_, run_underlying ht, sizeOf, typeInfo, hi, Builtin.lenOf, Builtin.firstCells]
      · simp [Builtin.append_, run_underlying ht, sizeOf, typeInfo, hi, Builtin.lenOf, Builtin.firstCells, hnc, storeCells]
    · obtain ⟨v', w', hrun, h2, h3, _⟩ := run_append_own (P := P) w base t ty e i z size bytes ht hi hz hsize hby hzs hsz v n xs hown ad 0 c [] (by simp) (fun j u hu => by simp at hu) (fun u hu => by cases hu) h63 hbytes hbase
      exact ⟨v', w', hrun, h2, hgr w' h3, h3⟩
  · obtain ⟨b, o, rfl, hlt, hc⟩ := hr.2 (by omega)
    obtain ⟨v', w', hrun, h2, h3, _⟩ := run_append_own (P := P) w base t ty e i z size bytes ht hi hz hsize hby hzs hsz v n xs hown ⟨b, o, none⟩ m c news hr.1 (fun j u hu => by rw [addr_add]; exact hc j u hu) h1 h63 hbytes hbase
    exact ⟨v', w', hrun, h2, hgr w' h3, h3⟩
theorem wpList_append_rdG {ops : Array Oper} {rest : List Oper} {o : Oper} {a : Act} {Q : Exit → Act → World → Prop} (hgd : o.guard = none) (s x : Operand) (t : TypeId)
    (ho : o.op = .call { callee := .builtin .append, args := #[s, x], argTypes := #[t, t] })
    (base : Nat) (e : TypeId) (i : TypeInfo) (z : Value) (size bytes : Nat) (ht : P.underlying t = some (.slice e)) (hi : P.info? e = some i) (hz : i.zero = some z)
    (hsize : i.size = size) (hby : i.bytes = bytes) (hzs : z.cells.size = size) (hsz : 0 < size)
    (v : Value) (n : Nat) (xs : List Value) (hs : a.eval s = v) (hown : w.ownsRow base e size v n xs)
    (B : Nat) (A : Option Addr) (m c : Nat) (news : List Value) (hx : a.eval x = .slice A m c) (hr : Rd w B size A m news) (h1 : ∀ u ∈ news, u.oneCell' = true)
    (h63 : n + m ≤ maxLen) (hbytes : (n + m) * bytes ≤ 140737488355328) (hbase : base ≤ w.heap.size)
    (h : ∀ v' w', w'.ownsRow base e size v' (n + m) (xs ++ news) → Below base w w' → w.grownBy w' v.ownBlock → wpList P ops Q rest (a.put o.dst v') w') : wpList P ops Q (o :: rest) a w := by
  obtain ⟨v', w', hrun, h2, h3, h4⟩ := run_append_rdG (P := P) w base t o.type e i z size bytes ht hi hz hsize hby hzs hsz v n xs hown B A m c news hr h1 h63 hbytes hbase
  refine wpList_plain hgd fun _ hK => ?_
  unfold Oper.wp execOp
  simp only [ho, resolve, invoke, builtin, Sem.run_bind, Sem.run_pure, Result.andThen_ok, List.map_toArray, List.map_cons, List.map_nil, hs, hx, hrun]
  exact hK _ _ (h v' w' h2 h3 h4)
end

theorem append_u8sG {ops : Array Oper} {rest : List Oper} {o : Oper} {a : Act} {Q : Exit → Act → World → Prop} (w : World) (hgd : o.guard = none) (s x : Operand)
    (ho : o.op = .call { callee := .builtin .append, args := #[s, x], argTypes := #[40, 40] })
    (base : Nat) (v : Value) (L M : List Int) (hs : a.eval s = v) (hown : w.ownsRow base 5 1 v L.length (bcells L)) (A : Option Addr) (c B : Nat) (hx : a.eval x = .slice A M.length c) (hM : BRows w B A M)
    (hn : L.length + M.length ≤ 1000000000) (hbase : base ≤ w.heap.size)
    (h : ∀ v' w', w'.ownsRow base 5 1 v' (L ++ M).length (bcells (L ++ M)) → Below base w w' → w.grownBy w' v.ownBlock → wpList Try.prog ops Q rest (a.put o.dst v') w') : wpList Try.prog ops Q (o :: rest) a w := by
  obtain ⟨i0, hi0, hz0, hz1, hz2⟩ := info_parts infoU8
  refine wpList_append_rdG w hgd s x 40 ho base 5 i0 (.int .u8 0) 1 1 Try.underlying40 hi0 hz0 hz1 hz2 rfl (by decide) v L.length (bcells L) hs hown B A M.length c (bcells M) hx (brows_rd hM) ?_ ?_ ?_ hbase ?_
  · intro y hy
    unfold bcells at hy
    obtain ⟨v, _, rfl⟩ := List.mem_map.1 hy
    rfl
  · unfold maxLen; omega
  · omega
  · intro v' w' hown' hb hg
    refine h v' w' ?_ hb hg
    rw [bcells_append, List.length_append]
    exact hown'
theorem append_evsG {ops : Array Oper} {rest : List Oper} {o : Oper} {a : Act} {Q : Exit → Act → World → Prop} (w : World) (hgd : o.guard = none) (s x : Operand)
    (ho : o.op = .call { callee := .builtin .append, args := #[s, x], argTypes := #[46, 46] })
    (base : Nat) (v : Value) (L M : List Ev) (hs : a.eval s = v) (hown : w.ownsRow base 68 14 v L.length (ecells L)) (A : Option Addr) (c B : Nat) (hx : a.eval x = .slice A M.length c) (hM : ERows w B A M)
    (hn : L.length + M.length ≤ 1000000) (hbase : base ≤ w.heap.size)
    (h : ∀ v' w', w'.ownsRow base 68 14 v' (L ++ M).length (ecells (L ++ M)) → Below base w w' → w.grownBy w' v.ownBlock → wpList Try.prog ops Q rest (a.put o.dst v') w') : wpList Try.prog ops Q (o :: rest) a w := by
  obtain ⟨i0, hi0, hz0, hz1, hz2⟩ := info_parts infoEv
  refine wpList_append_rdG w hgd s x 46 ho base 68 i0 (.agg #[.int .i64 0, .int .u64 0, .int .u64 0, .int .u64 0, .int .u64 0, .int .u64 0, .int .u64 0, .int .u64 0, .int .u8 0, .int .u64 0, .int .i64 0, .int .i64 0, .int .u64 0, .int .u64 0]) 14 112 Try.underlying46 hi0 hz0 hz1 hz2 rfl (by decide) v L.length (ecells L) hs hown B A M.length c (ecells M) hx hM ?_ ?_ ?_ hbase ?_
  · intro y hy
    unfold ecells at hy
    obtain ⟨v, _, hy⟩ := List.mem_flatMap.1 hy
    simp only [evA_toList, List.mem_cons, List.mem_nil_iff, or_false] at hy
    rcases hy with rfl | rfl | rfl | rfl | rfl | rfl | rfl | rfl | rfl | rfl | rfl | rfl | rfl | rfl <;> rfl
  · unfold maxLen; omega
  · omega
  · intro v' w' hown' hb hg
    refine h v' w' ?_ hb hg
    rw [ecells_append, List.length_append]
    exact hown'
theorem append_evG {ops : Array Oper} {rest : List Oper} {o : Oper} {a : Act} {Q : Exit → Act → World → Prop} (w : World) (hgd : o.guard = none) (s x : Operand)
    (ho : o.op = .call { callee := .builtin .append, args := #[s, x], argTypes := #[46, 46] })
    (base : Nat) (v : Value) (L : List Ev) (e : Ev) (hs : a.eval s = v) (hown : w.ownsRow base 68 14 v L.length (ecells L)) (g : Nat) (hx : a.eval x = .slice (some ⟨g, 0, none⟩) 1 1) (hg : Blk w g 68 (evA e))
    (hn : L.length + 1 ≤ 1000000) (hbase : base ≤ w.heap.size)
    (h : ∀ v' w', w'.ownsRow base 68 14 v' (L ++ [e]).length (ecells (L ++ [e])) → Below base w w' → w.grownBy w' v.ownBlock → wpList Try.prog ops Q rest (a.put o.dst v') w') : wpList Try.prog ops Q (o :: rest) a w :=
  append_evsG w hgd s x ho base v L [e] hs hown _ 1 (g + 1) hx (rd_blk hg) hn hbase h
end Go.Proofs.Ytnhjphmcdamoaaa
namespace Go.Proofs.Ytnhjphmcdamoaaa
set_option linter.unusedVariables false
set_option linter.unusedSimpArgs false
open Go.RowKit Go Go.BigFrame

section
variable {P : Program} (w : World)
/-- append onto a row of the call's own: the new row lies in the old block or in a new one. -/
theorem run_append_ownF (base : Nat) (t ty e : TypeId) (i : TypeInfo) (z : Value) (size bytes : Nat) (ht : P.underlying t = some (.slice e)) (hi : P.info? e = some i) (hz : i.zero = some z)
    (hsize : i.size = size) (hby : i.bytes = bytes) (hzs : z.cells.size = size) (hsz : 0 < size)
    (v : Value) (n : Nat) (xs : List Value) (hown : w.ownsRow base e size v n xs) (B : Nat) (A : Option Addr) (m c : Nat) (news : List Value) (hrd : Rd w B size A m news) (h1 : ∀ u ∈ news, u.oneCell' = true)
    (h63 : n + m ≤ maxLen) (hbytes : (n + m) * bytes ≤ 140737488355328) (hbase : base ≤ w.heap.size) :
    ∃ v' w', (Builtin.append_ #[t, t] ty #[v, .slice A m c]).run P w = .ok v' w' ∧ w'.ownsRow base e size v' (n + m) (xs ++ news) ∧ Below base w w' ∧ w.grownBy w' v.ownBlock ∧ (v'.ownBlock = v.ownBlock ∨ ∀ b, v'.ownBlock = some b → w.heap.size ≤ b) := by
  obtain ⟨v', w', hr, h2, h3, h4⟩ := run_append_rdG (P := P) w base t ty e i z size bytes ht hi hz hsize hby hzs hsz v n xs hown B A m c news hrd h1 h63 hbytes hbase
  refine ⟨v', w', hr, h2, h3, h4, ?_⟩
  subst hsize
  subst hby
  by_cases hm : m = 0
  · subst hm
    rcases hown.2 with ⟨rfl, rfl⟩ | ⟨g, cap, cur, rfl, hbg, hg, hnc, hcm, hcs, htake⟩
    · rcases h2.2 with ⟨rfl, _⟩ | ⟨g', cap', cur', rfl, _, hg', _⟩
      · exact .inl rfl
      · refine .inr fun b hb => ?_
        obtain rfl : g' = b := by simpa [Value.ownBlock] using hb
        rcases Nat.lt_or_ge g' w.heap.size with hlt | hge
        · exfalso
          have hne := hr
          rcases A with _ | ad
          · simp [Builtin.append_, run_underlying ht, sizeOf, typeInfo, hi, Builtin.lenOf, Builtin.firstCells] at hne
          · simp [Builtin.append_, run_underlying ht, sizeOf, typeInfo, hi, Builtin.lenOf, Builtin.firstCells, loadCells, loadCellsFrom] at hne
        · exact hge
    · obtain rfl : news = [] := List.eq_nil_of_length_eq_zero (by simpa using hrd.1)
      left
      rcases A with _ | ad
      · simp [Builtin.append_, run_underlying ht, sizeOf, typeInfo, hi, Builtin.lenOf, Builtin.firstCells, hnc, storeCells] at hr
        rw [← hr.1]
      · rw [run_append_room (P := P) w t ty e i ht hi g n cap cur hg ad 0 c [] (by simp) (fun j u hu => by simp at hu) (fun u hu => by cases hu) hnc (by rw [hcs]; simp; exact Nat.mul_le_mul_right _ hnc)] at hr
        injection hr with e1 _
        rw [← e1]
        rfl
  · obtain ⟨b, o, rfl, hlt, hc⟩ := hrd.2 (by omega)
    have hnews : ∀ j u, news[j]? = some u → w.cell? ((⟨b, o, none⟩ : Addr).add j) = some u := fun j u hu => by rw [addr_add]; exact hc j u hu
    rcases hown.2 with ⟨rfl, rfl⟩ | ⟨g, cap, cur, rfl, hbg, hg, hnc, hcm, hcs, htake⟩
    · rw [run_append_nil (P := P) w t ty e i z ht hi hz ⟨b, o, none⟩ m c news hrd.1 hnews (by omega) (by simp only [maxLen] at h63; omega) (by have hb := hbytes; simp only [Nat.zero_add] at hb; omega)] at hr
      injection hr with e1 _
      rw [← e1]
      refine .inr fun b' hb' => ?_
      have : w.heap.size = b' := by simpa [Value.ownBlock] using hb'
      omega
    · by_cases hroom : n + m ≤ cap
      · rw [run_append_room (P := P) w t ty e i ht hi g n cap cur hg ⟨b, o, none⟩ m c news hrd.1 hnews h1 hroom (by rw [hrd.1, hcs, ← Nat.add_mul]; exact Nat.mul_le_mul_right _ hroom)] at hr
        injection hr with e1 _
        rw [← e1]
        exact .inl rfl
      · have holds : ∀ j u, xs[j]? = some u → w.cell? ((⟨g, 0, none⟩ : Addr).add j) = some u := hown.cells (g := g) rfl
        rw [run_append_grow (P := P) w t ty e i z ht hi hz ⟨g, 0, none⟩ n cap xs hown.1 holds ⟨b, o, none⟩ m c news hrd.1 hnews (by omega) (by simp only [maxLen] at h63; omega) (growslice_fits (by omega) hbytes)] at hr
        injection hr with e1 _
        rw [← e1]
        refine .inr fun b' hb' => ?_
        have : w.heap.size = b' := by simpa [Value.ownBlock] using hb'
        omega
end
section
variable {P : Program} {ops : Array Oper} {W : World} {base : Nat} {E : List Es} {cs : List (Nat × Nat)} {Q : Act → Known → Prop} {i : Nat} {o : Oper} {rest : List Oper} {a : Act} {F : Known}
/-- An append: the row k1 is consumed, the row k2 is read. -/
theorem sw_append (hw : Region.wanted o (yielded ops a.tmps) = true) (s x : Operand) (t : TypeId) (ho : o.op = .call { callee := .builtin .append, args := #[s, x], argTypes := #[t, t] })
    (e : TypeId) (ti : TypeInfo) (z : Value) (size bytes : Nat) (ht : P.underlying t = some (.slice e)) (hi : P.info? e = some ti) (hz : ti.zero = some z)
    (hsize : ti.size = size) (hby : ti.bytes = bytes) (hzs : z.cells.size = size) (hsz : 0 < size)
    (k1 k2 : Nat) (u1 u2 : Value) (n m : Nat) (xs news ys : List Value) (nm : Nat) (hE1 : E[k1]? = some (.row base e size n xs)) (hE2 : E[k2]? = some (.row base e size m news)) (hE : E[i]? = some (.row base e size nm ys)) (hnm : nm = n + m) (hys : ys = xs ++ news)
    (hc1 : esC cs k1 = some i) (hc2 : esC cs k2 = none ∨ esC cs k2 = some i) (hF1 : F k1 u1) (hF2 : F k2 u2) (hs1 : HasS .any ops o k1) (hs2 : HasS .any ops o k2) (he1 : a.eval s = u1) (he2 : a.eval x = u2)
    (h1 : ∀ u ∈ news, u.oneCell' = true) (h63 : n + m ≤ maxLen) (hbytes : (n + m) * bytes ≤ 140737488355328) (hbw : base ≤ W.heap.size)
    (h : ∀ u, Sw P ops W base E cs Q (i + 1) rest (a.put o.dst u) (F.ins i u)) : Sw P ops W base E cs Q i (o :: rest) a F := by
  subst hnm hys
  refine sep_want hw (fun w hC hK => ?_) fun u _ => h u
  have r1 := hK k1 u1 hF1 hs1 (.inr hc1)
  have r2 := hK k2 u2 hF2 hs2 hc2
  simp only [esR, hE1] at r1
  simp only [esR, hE2] at r2
  have hwz := hC.size
  obtain ⟨A, c, rfl, _, _, hrd⟩ := own_open r2
  obtain ⟨v', w', hrun, g1, g2, g3, g4⟩ := run_append_ownF (P := P) w base t o.type e ti z size bytes ht hi hz hsize hby hzs hsz u1 n xs r1 _ A m c news hrd h1 h63 hbytes (by omega)
  have hrun' : (execOp a.eval o).run P w = .ok (.value v') w' := by
    unfold execOp
    simp only [ho, resolve, invoke, builtin, Sem.run_bind, Sem.run_pure, Result.andThen_ok, List.map_toArray, List.map_cons, List.map_nil, he1, he2, hrun]
  rw [hrun']
  refine ⟨fun v hv => (by simp only [esT, hE] at hv; cases hv), hC.trans g2, ⟨u1.ownBlock, g3, .inr ⟨k1, u1, hF1, hs1, hc1, by simp only [esF, hE1]⟩, fun b hb => ?_⟩, by simp only [esR, hE]; exact g1⟩
  simp only [esF, hE] at hb
  refine ⟨(g1.lt b hb).2, ?_⟩
  rcases g4 with g4 | g4
  · exact .inr (by rw [← g4]; exact hb)
  · exact .inl (g4 b hb)
end
/-- A row of bytes of the call's own. -/
def Es.bytes (base : Nat) (L : List Int) : Es := .row base 5 1 L.length (bcells L)
section
variable {ops : Array Oper} {W : World} {base : Nat} {E : List Es} {cs : List (Nat × Nat)} {Q : Act → Known → Prop} {i : Nat} {o : Oper} {rest : List Oper} {a : Act} {F : Known}
theorem sw_append_u8 (hw : Region.wanted o (yielded ops a.tmps) = true) (s x : Operand) (ho : o.op = .call { callee := .builtin .append, args := #[s, x], argTypes := #[40, 40] })
    (k1 k2 : Nat) (u1 u2 : Value) (L M : List Int) (hE1 : E[k1]? = some (.bytes base L)) (hE2 : E[k2]? = some (.bytes base M)) (hE : E[i]? = some (.bytes base (L ++ M)))
    (hc1 : esC cs k1 = some i) (hc2 : esC cs k2 = none ∨ esC cs k2 = some i) (hF1 : F k1 u1) (hF2 : F k2 u2) (hs1 : HasS .any ops o k1) (hs2 : HasS .any ops o k2) (he1 : a.eval s = u1) (he2 : a.eval x = u2)
    (hn : L.length + M.length ≤ 1000000000) (hbw : base ≤ W.heap.size)
    (h : ∀ u, Sw Try.prog ops W base E cs Q (i + 1) rest (a.put o.dst u) (F.ins i u)) : Sw Try.prog ops W base E cs Q i (o :: rest) a F := by
  obtain ⟨i0, hi0, hz0, hz1, hz2⟩ := info_parts infoU8
  refine sw_append hw s x 40 ho 5 i0 (.int .u8 0) 1 1 Try.underlying40 hi0 hz0 hz1 hz2 rfl (by decide) k1 k2 u1 u2 L.length M.length (bcells L) (bcells M) (bcells (L ++ M)) (L ++ M).length hE1 hE2 hE List.length_append (bcells_append L M) hc1 hc2 hF1 hF2 hs1 hs2 he1 he2 ?_ ?_ ?_ hbw h
  · intro y hy
    unfold bcells at hy
    obtain ⟨v, _, rfl⟩ := List.mem_map.1 hy
    rfl
  · unfold maxLen; omega
  · omega
/-- A call that answers bytes. -/
theorem sw_call_bytes (hw : Region.wanted o (yielded ops a.tmps) = true) (f : FuncId) (args : Array Value) (L : List Int) (hE : E[i]? = some (.bytes base L)) (hbw : base ≤ W.heap.size) (he : ∀ w, (execOp a.eval o).run Try.prog w = .ok (.enter f args) w)
    (c : ∀ w, Calls Try.prog f args w (GivesB L w))
    (h : ∀ u, Sw Try.prog ops W base E cs Q (i + 1) rest (a.put o.dst u) (F.ins i u)) : Sw Try.prog ops W base E cs Q i (o :: rest) a F :=
  sw_call_row hw f args base 5 1 L.length (bcells L) hE (Nat.le_refl _) hbw he (fun w _ => c w) h
/-- A literal of one byte. -/
theorem sw_lit (hw : Region.wanted o (yielded ops a.tmps) = true) (x : Operand) (ho : o.op = .buildSlice 40 1 #[(0, x)]) (n : Int) (he : a.eval x = .int .u8 n) (hE : E[i]? = some (.bytes base [n])) (hbw : base ≤ W.heap.size)
    (h : ∀ u, Sw Try.prog ops W base E cs Q (i + 1) rest (a.put o.dst u) (F.ins i u)) : Sw Try.prog ops W base E cs Q i (o :: rest) a F := by
  refine sw_new hw base 5 1 1 (bcells [n]) hE (Nat.le_refl _) hbw (fun w hC => ?_) h
  obtain ⟨i0, hi0, hz0, hz1, hz2⟩ := info_parts infoU8
  have hr := run_buildSlice (P := Try.prog) w 40 5 1 #[(0, .int .u8 n)] #[.int .u8 n] i0 (.int .u8 0) Try.underlying40 hi0 hz0 (by rw [hz1]; decide) (by rw [hz1]; decide) (by rw [hz1, show Array.range (1 * 1) = #[0] from by decide]; simp [Instr.fill, Value.cells, List.zipIdx])
  refine ⟨.slice (some ⟨w.heap.size, 0, none⟩) 1 1, w.alloc (.cells #[.int .u8 n] 5), ?_, ?_, ?_⟩
  · unfold execOp
    simp only [ho, Sem.run_bind, List.map_toArray, List.map_cons, List.map_nil, he, hr, Result.andThen_ok]
    rfl
  · exact (Below.refl _ _).alloc (Nat.le_refl _) _
  · exact World.ownsRow_lit w #[.int .u8 n] 1 (Nat.le_refl _) (by decide) rfl
/-- The beginning: one row of the call's own stands there. -/
theorem inv_none {listed : Array Bool} {w : World} : InvS (esR E) (esF E) (esC cs) listed (fun _ _ => False) w :=
  ⟨fun _ _ h => h.elim, fun _ _ h => h.elim, fun _ _ _ _ h => h.elim⟩
def oneF (k : Nat) (u : Value) : Known := fun k' u' => k' = k ∧ u' = u
theorem inv_one {listed : Array Bool} {w : World} {k : Nat} {u : Value} {L : List Int} (hE : E[k]? = some (.bytes base L)) (h : w.ownsRow base 5 1 u L.length (bcells L)) : InvS (esR E) (esF E) (esC cs) listed (oneF k u) w := by
  refine ⟨?_, ?_, ?_⟩
  · rintro k' u' ⟨rfl, rfl⟩ _
    simp only [esR, hE, Es.bytes]
    exact h
  · rintro k' u' ⟨rfl, rfl⟩ _ b hb
    simp only [esF, hE, Es.bytes] at hb
    exact (h.lt b hb).2
  · rintro k1 u1 k2 u2 ⟨rfl, rfl⟩ ⟨rfl, rfl⟩ _ _ hne
    exact absurd rfl hne
theorem inv_row {listed : Array Bool} {F : Known} {w : World} {k : Nat} {u : Value} {L : List Int} (hJ : InvS (esR E) (esF E) (esC cs) listed F w) (hF : F k u) (hc : esC cs k = none) (hE : E[k]? = some (.bytes base L)) : w.ownsRow base 5 1 u L.length (bcells L) := by
  have := hJ.rel k u hF fun j hj => by rw [hc] at hj; cases hj
  simpa only [esR, hE, Es.bytes] using this
/-- A row is handed on. -/
theorem sw_pass (hw : Region.wanted o (yielded ops a.tmps) = true) (x : Operand) (ho : o.op = .assign x) (k1 : Nat) (u1 : Value) (L : List Int) (hE1 : E[k1]? = some (.bytes base L)) (hE : E[i]? = some (.bytes base L)) (hc1 : esC cs k1 = some i) (hF1 : F k1 u1) (hs1 : HasS .any ops o k1) (he1 : a.eval x = u1)
    (h : ∀ u, Sw Try.prog ops W base E cs Q (i + 1) rest (a.put o.dst u) (F.ins i u)) : Sw Try.prog ops W base E cs Q i (o :: rest) a F := by
  refine sep_want hw (fun w hC hK => ?_) fun u _ => h u
  have r1 := hK k1 u1 hF1 hs1 (.inr hc1)
  simp only [esR, hE1, Es.bytes] at r1
  have hrun : (execOp a.eval o).run Try.prog w = .ok (.value u1) w := by
    unfold execOp; rw [ho]; generalize a.eval = ρ at he1; simp [he1, go_sem]
  rw [hrun]
  refine ⟨fun v hv => (by simp only [esT, hE, Es.bytes] at hv; cases hv), hC, ⟨u1.ownBlock, World.grownBy.refl w _, .inr ⟨k1, u1, hF1, hs1, hc1, by simp only [esF, hE1, Es.bytes]⟩, fun b hb => ?_⟩, by simp only [esR, hE, Es.bytes]; exact r1⟩
  simp only [esF, hE, Es.bytes] at hb
  exact ⟨(r1.lt b hb).2, .inr hb⟩
theorem sw_move (hw : Region.wanted o (yielded ops a.tmps) = true) (x : Operand) (ho : o.op = .move x) (v : Value) (hE : E[i]? = some (.is v)) (hx : a.eval x = v)
    (h : Sw Try.prog ops W base E cs Q (i + 1) rest (a.put o.dst v) (F.ins i v)) : Sw Try.prog ops W base E cs Q i (o :: rest) a F :=
  sw_val hw v hE (fun w _ => by rw [run_move x ho, hx]) h
/-- The region. -/
theorem sw_region {id : Nat} {Q : Exit → Act → World → Prop} {a : Act} {w : World} {l : List Oper} (base : Nat) (E : List Es) (cs : List (Nat × Nat)) (F0 : Known) (hm : Try.prog.follows .mixedOrders = true) (hB : Region.lexB .any l.toArray = true)
    (hJ : InvS (esR E) (esF E) (esC cs) (Array.replicate l.length false) F0 w.drew)
    (h : Sw Try.prog l.toArray w base E cs (fun a' F' => ∀ w' listed, Below base w w' → InvS (esR E) (esF E) (esC cs) listed F' w' → Q .normal a' w') 0 l a F0) : (Code.region id l.toArray true).wp Try.prog Q a w :=
  wp_region_sep (esT E) (esR E) (esF E) (esC cs) (fun w' => Below base w w') F0 hm hB (Below.refl _ _).drew esR_keep hJ h
end
end Go.Proofs.Ytnhjphmcdamoaaa
