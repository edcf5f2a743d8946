/-
  The walk of package net: Put.
-/
import Derived.Test.YtnhjphmcdamoaaaNt6
import Derived.Test.YtnhjphmcdamoaaaMr
import Derived.Deep.RegionLaw
namespace Go.Proofs.Ytnhjphmcdamoaaa
set_option linter.unusedVariables false
set_option linter.unusedSimpArgs false
open Go.RowKit Go
set_option maxRecDepth 100000

section
variable (ρ : Operand → Value) (dst : Option Tmp) (ty : TypeId) (x : Operand) (pos : String) (after : Array Edge) (guard : Option (Nat × Bool))
/-- A literal of one message. -/
@[go_sem ↓ high] theorem execOp_bs1_mc : execOp ρ { dst, op := .buildSlice 60 1 #[(0, x)], type := ty, pos, after, guard } = bs1 60 (ρ x) := by simp [execOp, bs1]
end
@[go_sem] theorem run_bs1_mc (x : Mc) (w : World) : (bs1 60 (.agg (mcA x))).run Try.prog w = .ok (.value (.slice (some ⟨w.heap.size, 0, none⟩) 1 1)) (w.alloc (.cells (mcA x) 48)) := by kernel_rfl
/-- A call as one step of a region that draws. -/
theorem step_call {P : Program} {ops : Array Oper} {o : Oper} {a : Act} {w : World} {K : Act → World → Prop} {Q : Exit → Act → World → Prop} {E : Prop} (hg : o.guard = none) (f : FuncId) (args : Array Value) (he : (execOp a.eval o).run P w = .ok (.enter f args) w)
    {R : Ending → World → Prop} (c : Calls P f args w R) (h : ∀ e w', R e w' → ∃ u, e = .returned u ∧ K (a.put o.dst u) w') : if Region.wanted o (yielded ops a.tmps) = true then Oper.wp P o a w K Q else E := by
  have hw : Region.wanted o (yielded ops a.tmps) = true := by simp [Region.wanted, hg]
  rw [if_pos hw]
  unfold Oper.wp
  rw [he]
  refine Calls.mono c fun e w' hr => ?_
  obtain ⟨u, rfl, hk⟩ := h e w' hr
  exact hk
/-- append of one message onto a row of the call's own, as one step. -/
theorem step_append_mc {ops : Array Oper} {o : Oper} {a : Act} {w : World} {K : Act → World → Prop} {Q : Exit → Act → World → Prop} {E : Prop} (hgd : o.guard = none) (s x : Operand)
    (ho : o.op = .call { callee := .builtin .append, args := #[s, x], argTypes := #[60, 60] })
    (base : Nat) (v : Value) (L : List Mc) (y : Mc) (hsl : y.sl) (hs : a.eval s = v) (hown : w.ownsRow base 48 12 v L.length (mcells L)) (g : Nat) (hx : a.eval x = .slice (some ⟨g, 0, none⟩) 1 1) (hB : Blk w g 48 (mcA y))
    (hn : L.length ≤ 100000) (hbase : base ≤ w.heap.size)
    (h : ∀ v' w', w'.ownsRow base 48 12 v' (L ++ [y]).length (mcells (L ++ [y])) → Below base w w' → w.grownBy w' v.ownBlock → (v'.ownBlock = v.ownBlock ∨ ∀ b, v'.ownBlock = some b → w.heap.size ≤ b) → K (a.put o.dst v') w') : if Region.wanted o (yielded ops a.tmps) = true then Oper.wp Try.prog o a w K Q else E := by
  have hw : Region.wanted o (yielded ops a.tmps) = true := by simp [Region.wanted, hgd]
  rw [if_pos hw]
  obtain ⟨i0, hi0, hz0, hz1, hz2⟩ := info_parts infoMsg
  obtain ⟨q, -⟩ := hB.rules
  have hrd : Rd w w.heap.size 12 (some ⟨g, 0, none⟩) 1 (mcells [y]) := ⟨by rw [mcells_length]; rfl, fun _ => ⟨g, 0, rfl, hB.lt, fun j u hu => by
    rw [mcells_one, Array.getElem?_toList] at hu
    rw [Nat.zero_add, q]; exact hu⟩⟩
  obtain ⟨v', w', hrun, h2, h3, h4, h5⟩ := run_append_ownF (P := Try.prog) w base 60 o.type 48 i0 (.agg #[.int .u8 0, .int .i64 0, .int .i64 0, .int .u64 0, .int .u64 0, .int .u64 0, .int .u64 0, .int .u64 0, .int .u64 0, .slice none 0 0, .int .u64 0, .int .i64 0]) 12 112 Try.underlying60 hi0 hz0 hz1 hz2 rfl (by decide) v L.length (mcells L) hown w.heap.size (some ⟨g, 0, none⟩) 1 1 (mcells [y]) hrd (mcells_cell (by simpa using hsl)) (by unfold maxLen; omega) (by omega) hbase
  unfold Oper.wp execOp
  simp only [ho, resolve, invoke, builtin, Sem.run_bind, Sem.run_pure, Result.andThen_ok, List.map_toArray, List.map_cons, List.map_nil, hs, hx, hrun]
  rw [← mcells_append] at h2
  exact h v' w' (by rw [List.length_append]; exact h2) h3 h4 h5

/-- What comes of a net: its new row lies where it lay or in a new block; so do each message's events. -/
def NetTo (w0 w w' : World) (bs : List (Nat × TypeId × Array Value)) (h : Nat) (s : Value) (X : List Mc) (L' : List Ms) (C' : Nat → Bool) : Prop :=
  ∃ s' X', Net w0 w' bs h s' X' L' C' ∧ Fr w w' h s.ownBlock ∧ (s'.ownBlock = s.ownBlock ∨ ∀ k, s'.ownBlock = some k → w.heap.size ≤ k) ∧ ∀ x ∈ X', x ∈ X ∨ ∀ k, x.s.ownBlock = some k → w.heap.size ≤ k
section
variable {w0 w : World} {bs : List (Nat × TypeId × Array Value)} {h : Nat} {s : Value} {X : List Mc} {L : List Ms} {C : Nat → Bool}
theorem NetTo.same (N : Net w0 w bs h s X L C) {w' : World} (hb : Below w.heap.size w w') : NetTo w0 w w' bs h s X L C :=
  ⟨s, X, N.call hb, Fr.of_below hb, .inl rfl, fun _ hx => .inl hx⟩
theorem nput_not (m : Ms) (o : m.ok) (hm : mmayB m = false) (A : Option Addr) (c : Nat) (hL : ERows w w.heap.size A m.l) (hc : m.l.length ≤ c) (hmx : c ≤ maxLen) (hB : Blk w h 82 (netA s C)) :
    Calls Try.prog 33 #[.pointer (some ⟨h, 0, none⟩), .agg (mcA ⟨m.k, m.f, m.t, m.d, .slice A m.l.length c, m.n, m.a⟩)] w fun e w' => e = .returned (.int .i64 1) ∧ Below w.heap.size w w' := by
  have C1 := Lib.hid fun (W : World) (hW : Below w.heap.size w W) => mmay' m o false hm A c W ((hL.below hW).mono hW.size) hc hmx
  clear hL o hm hB
  go_enter Try.func33, Try.ntmps33
  go_wp2_with fail
  have T0 : Trk w _ [(w.heap.size, 48, mcA ⟨m.k, m.f, m.t, m.d, .slice A m.l.length c, m.n, m.a⟩)] := (Trk.nil w).push (t := 48) (cs := mcA ⟨m.k, m.f, m.t, m.d, .slice A m.l.length c, m.n, m.a⟩) rfl
  refine (C1.out _ T0.below).mono ?_
  rintro r w2 ⟨rfl, hb⟩
  have T2 := T0.call hb
  clear T0 hb
  go_wp2_with fail
  go_ret
  exact ⟨rfl, T2.below⟩
end
theorem NetTo.drop {w0 w w' : World} {g : Nat} {t : TypeId} {cs : Array Value} {bs : List (Nat × TypeId × Array Value)} {h : Nat} {s : Value} {X : List Mc} {L : List Ms} {C : Nat → Bool} (N : NetTo w0 w w' ((g, t, cs) :: bs) h s X L C) : NetTo w0 w w' bs h s X L C := by
  obtain ⟨s', X', n, r⟩ := N
  exact ⟨s', X', n.drop, r⟩
/-- One message more. -/
theorem net_put {w0 w w4 w5 : World} {bs : List (Nat × TypeId × Array Value)} {h : Nat} {s : Value} {X : List Mc} {L : List Ms} {C : Nat → Bool} {m : Ms} {u v' : Value} {b : Nat} (N4 : Net w0 w4 bs h s X L C) (B : Below w.heap.size w w4) (own : w4.ownsRow b 68 14 u m.l.length (ecells m.l)) (hb0 : w0.heap.size ≤ b) (hbw : w.heap.size ≤ b) (ok : m.ok) (o : Obj) (hg : (w4.alloc o).grownBy w5 s.ownBlock)
    (hown' : w5.ownsRow w0.heap.size 48 12 v' (X ++ [(⟨m.k, m.f, m.t, m.d, u, m.n, m.a⟩ : Mc)]).length (mcells (X ++ [⟨m.k, m.f, m.t, m.d, u, m.n, m.a⟩]))) (hf' : v'.ownBlock = s.ownBlock ∨ ∀ b, v'.ownBlock = some b → (w4.alloc o).heap.size ≤ b) :
    NetTo w0 w (w5.setCell ⟨h, 0, none⟩ v') bs h s X (L ++ [m]) C := by
  have F1 : Fr w4 (w4.alloc o) h s.ownBlock := Fr.of_below ((Below.refl _ _).alloc (Nat.le_refl _) _)
  have F2 : Fr w4 w5 h s.ownBlock := F1.trans (Fr.of_grown hg)
  have F3 : Fr w4 (w5.setCell ⟨h, 0, none⟩ v') h s.ownBlock := F2.set _ rfl _
  have b5 : Blk w5 h 82 (netA s C) := (hg.block h (Nat.lt_of_lt_of_le N4.T.lt (by simp)) (fun e => N4.s_ne e.symm)).trans (N4.blk.alloc o)
  have b6 : Blk (w5.setCell ⟨h, 0, none⟩ v') h 82 (netA v' C) := by rw [← netA_set0 s v' C]; exact b5.set_ 0 v'
  have own6 := (Fr.of_set (w := w5) (r := none) ⟨h, 0, none⟩ rfl v').own hown' (own_blk_ne hown' b5 (by decide)) (by cases v'.ownBlock <;> simp)
  have hz : w4.heap.size ≤ (w4.alloc o).heap.size := by simp
  have hz2 := B.size
  refine ⟨v', X ++ [(⟨m.k, m.f, m.t, m.d, u, m.n, m.a⟩ : Mc)], N4.move F3 b6 own6 (hf'.imp id fun hh k hk => Nat.le_trans hz (hh k hk)) (All2.snoc (N4.evs' F3) ⟨rfl, own_mono (F3.own own (N4.ev_ne own).1 (N4.ev_ne own).2) hb0, ok⟩), (Fr.of_below B).trans F3, hf'.imp id fun hh k hk => Nat.le_trans hz2 (Nat.le_trans hz (hh k hk)), fun x hx => ?_⟩
  rcases List.mem_append.1 hx with hx | hx
  · exact .inl hx
  · obtain rfl := List.mem_singleton.1 hx
    exact .inr fun k hk => Nat.le_trans hbw (own.lt k hk).1
end Go.Proofs.Ytnhjphmcdamoaaa
