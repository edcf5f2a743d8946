/-
  The walk of package net: Heal.
-/
import Derived.Test.YtnhjphmcdamoaaaNt5
namespace Go.Proofs.Ytnhjphmcdamoaaa
set_option linter.unusedVariables false
set_option linter.unusedSimpArgs false
open Go.RowKit
set_option maxRecDepth 100000

/-- A store of many cells into a block that is known whole. -/
theorem run_storeVar_at {P : Program} (w : World) (g o : Nat) (t ty : TypeId) (old cells : Array Value) (hg : w.heap[g]? = some (.cells old t (0, 0))) (hi : (P.info? ty).map (·.size) = some cells.size)
    (ho : o + cells.size ≤ old.size) (h1 : cells.all (·.oneCell') = true) :
    (storeVar ty ⟨g, o, none⟩ (.agg cells)).run P w = .ok () (w.setRow g (old.toList.take o ++ cells.toList ++ old.toList.drop (o + cells.size)).toArray) := by
  have := run_storeCells_at (P := P) g o t cells.toList 0 old w hg (by simpa using ho) (fun v hv => (Array.all_eq_true_iff_forall_mem.1 h1) v (by simpa using hv))
  cases hq : P.info? ty with
  | none => simp [hq] at hi
  | some i =>
    have hs : cells.size = i.size := by simp [hq] at hi; omega
    rw [Nat.add_zero, Array.length_toList] at this
    rw [hs] at this
    simp [storeVar, sizeOf, typeInfo, hq, Value.cells, hs, this]
theorem wpList_store_at {P : Program} {ops : Array Oper} {rest : List Oper} {o : Oper} {a : Act} {w : World} {Q : Exit → Act → World → Prop} (hgd : o.guard = none) (ty : TypeId) (x y : Operand) (ho : o.op = .store ty x y)
    (g off : Nat) (cells : Array Value) (hx : a.eval x = .pointer (some ⟨g, off, none⟩)) (hy : a.eval y = .agg cells)
    (t : TypeId) (old : Array Value) (hg : w.heap[g]? = some (.cells old t (0, 0))) (hi : (P.info? ty).map (·.size) = some cells.size)
    (hold : off + cells.size ≤ old.size) (h1 : cells.all (·.oneCell') = true)
    (h : wpList P ops Q rest (a.put o.dst undef) (w.setRow g (old.toList.take off ++ cells.toList ++ old.toList.drop (off + cells.size)).toArray)) : wpList P ops Q (o :: rest) a w := by
  refine wpList_plain hgd fun _ hK => ?_
  unfold Oper.wp execOp
  simp only [ho, hx, hy, Instr.storeAt, Instr.sureAddr, Sem.run_bind, Sem.run_pure, Result.andThen_ok, run_storeVar_at w g off t ty old cells hg hi hold h1]
  exact hK _ _ h
/-- A block laid anew. -/
theorem Trk.row {w0 w : World} {g : Nat} {t : TypeId} {cs : Array Value} {bs : List (Nat × TypeId × Array Value)} (h : Trk w0 w ((g, t, cs) :: bs)) (hB : w0.heap.size ≤ g) (hp : Nes g bs) (cs' : Array Value) : Trk w0 (w.setRow g cs') ((g, t, cs') :: bs) := by
  have hb := h.blk _ _ _ List.mem_cons_self
  refine ⟨⟨h.below.os, h.below.tape, h.below.output, Nat.le_trans h.below.size (by simp [World.setRow]), fun k hk => ?_⟩, fun g' t' cs2 hm => ?_⟩
  · rw [setRow_other w g k _ (by omega)]
    exact h.below.block k hk
  · rcases List.mem_cons.1 hm with e | hm
    · cases e
      exact setRow_heap w g _ _ t _ hb
    · have h2 := h.blk _ _ _ (List.mem_cons_of_mem _ hm)
      unfold Blk at h2 ⊢
      rw [setRow_other w g g' _ (hp.out _ _ _ hm)]
      exact h2
/-- No cuts, as cells. -/
def cuts0 : Array Value := #[.bool false, .bool false, .bool false, .bool false, .bool false, .bool false, .bool false, .bool false, .bool false, .bool false, .bool false, .bool false, .bool false, .bool false, .bool false, .bool false, .bool false, .bool false, .bool false, .bool false, .bool false, .bool false, .bool false, .bool false, .bool false, .bool false, .bool false, .bool false, .bool false, .bool false, .bool false, .bool false, .bool false, .bool false, .bool false, .bool false]
theorem cuts_fit (s : Value) (C : Nat → Bool) : 1 + cuts0.size ≤ (netA s C).size := Nat.le_refl 37
theorem netA_heal (s : Value) (C : Nat → Bool) : ((netA s C).toList.take 1 ++ cuts0.toList ++ (netA s C).toList.drop (1 + cuts0.size)).toArray = netA s fun _ => false := by kernel_rfl
set_option maxHeartbeats 2000000 in
theorem nheal (h : Nat) (s : Value) (C : Nat → Bool) (w0 w : World) (T : Trk w0 w [(h, 82, netA s C)]) (hB : w0.heap.size ≤ h) :
    Calls Try.prog 37 #[.pointer (some ⟨h, 0, none⟩)] w fun e w' => e = .returned (.tuple #[]) ∧ Trk w0 w' [(h, 82, netA s fun _ => false)] ∧ w' = w.setRow h (netA s fun _ => false) := by
  have hb := T.blk _ _ _ List.mem_cons_self
  obtain ⟨q0, f0, -⟩ := T.rules
  have l0 := T.lt
  have q1 : w.cell? ⟨h, 0, none⟩ = some s := by rw [q0]; rfl
  clear q0
  have HB := Lib.hid hb
  clear hb
  go_enter Try.func37, Try.ntmps37
  go_wp2_with (refine wpList_store_at rfl _ (.tmp 7) (.tmp 5) rfl h 1 cuts0 rfl rfl _ _ HB.out (by kernel_rfl) (cuts_fit s C) (by kernel_rfl) ?_; rw [netA_heal])
  go_end0
  exact ⟨rfl, T.row hB trivial _, rfl⟩
theorem nhealN {w0 w : World} {bs : List (Nat × TypeId × Array Value)} {h : Nat} {s : Value} {X : List Mc} {L : List Ms} {C : Nat → Bool} (N : Net w0 w bs h s X L C) :
    Calls Try.prog 37 #[.pointer (some ⟨h, 0, none⟩)] w fun e w' => e = .returned (.tuple #[]) ∧ Net w0 w' bs h s X L (fun _ => false) ∧ Fr w w' h none := by
  refine (nheal h s C w0 w (N.T.perm (by simp)) N.hB).mono ?_
  rintro e w' ⟨rfl, T, rfl⟩
  have F : Fr w (w.setRow h (netA s fun _ => false)) h none := Fr.refl.row _
  exact ⟨rfl, N.turn F (T.blk _ _ _ List.mem_cons_self), F⟩
end Go.Proofs.Ytnhjphmcdamoaaa
