/-
  The walk of package net: own.
-/
import Derived.Test.YtnhjphmcdamoaaaNt1
namespace Go.Proofs.Ytnhjphmcdamoaaa
set_option linter.unusedVariables false
set_option linter.unusedSimpArgs false
open Go.RowKit
set_option maxRecDepth 100000

theorem results_msg {fn : Func} {s : Nat} (h : fn.results = #[.cell s 48]) (tmps : Array Value) (g : Nat) (x : Mc) (w : World) (ht : tmps.getD s undef = .pointer (some ⟨g, 0, none⟩)) (hb : Blk w g 48 (mcA x)) : (results fn tmps).run Try.prog w = .ok (.agg (mcA x)) w := by
  obtain ⟨q, -⟩ := hb.rules
  have ht2 : tmps[s]?.getD undef = .pointer (some ⟨g, 0, none⟩) := by rw [← ht]; simp
  simp [results, h, ht2, go_sem, q]
set_option maxHeartbeats 4000000 in
theorem nown (m : Ms) (A : Option Addr) (c : Nat) (w : World) (hL : ERows w w.heap.size A m.l) (hn : m.l.length ≤ 100000) :
    Calls Try.prog 60 #[.agg (mcA ⟨m.k, m.f, m.t, m.d, .slice A m.l.length c, m.n, m.a⟩)] w fun e w' => ∃ u, e = .returned (.agg (mcA ⟨m.k, m.f, m.t, m.d, u, m.n, m.a⟩)) ∧ w'.ownsRow w.heap.size 68 14 u m.l.length (ecells m.l) ∧ Below w.heap.size w w' := by
  have C1 := Lib.hid fun (W : World) (hW : Below w.heap.size w W) => clone_ev A c m.l W ((hL.below hW).mono hW.size) hn
  clear hL
  go_enter Try.func60, Try.ntmps60
  go_wp2_with fail
  have T0 : Trk w _ [(w.heap.size + 1, 48, mcA Mc.zero), (w.heap.size, 48, mcA ⟨m.k, m.f, m.t, m.d, .slice A m.l.length c, m.n, m.a⟩)] := ((Trk.nil w).push (t := 48) (cs := mcA ⟨m.k, m.f, m.t, m.d, .slice A m.l.length c, m.n, m.a⟩) rfl).push (t := 48) (cs := mcA Mc.zero) (g := w.heap.size + 1) (by simp)
  have hz : w.heap.size + 2 ≤ ((w.alloc (.cells (mcA ⟨m.k, m.f, m.t, m.d, .slice A m.l.length c, m.n, m.a⟩) 48)).alloc (.cells (mcA Mc.zero) 48)).heap.size := by simp
  refine (C1.out _ T0.below).mono ?_
  rintro r w2 ⟨u, rfl, own, hb⟩
  obtain ⟨A', c', rfl, -, -, -⟩ := own_open own
  have own2 := own_mono own hz
  have T2 := T0.call hb
  clear T0 hb own hz
  obtain ⟨q1, f1, q0, f0, -⟩ := T2.rules
  obtain ⟨l1, l0, -⟩ := T2.lts
  go_upto_region 2 with fail
  replace T2 := (T2.perm (cs := [(w.heap.size, 48, mcA ⟨m.k, m.f, m.t, m.d, .slice A m.l.length c, m.n, m.a⟩), (w.heap.size + 1, 48, mcA Mc.zero)]) (by simp)).set_ (Nat.le_refl _) ⟨by omega, trivial⟩ 9 (.slice A' m.l.length c')
  rw [mcA_set9] at T2
  dsimp only at T2
  replace own2 := own_far (p := ⟨w.heap.size, 9, none⟩) own2 (show w.heap.size < w.heap.size + 2 by omega) (.slice A' m.l.length c')
  generalize (World.setCell _ _ _) = w3 at T2 own2 ⊢
  clear q0 q1 f0 f1 l0 l1
  obtain ⟨q0, f0, q1, f1, -⟩ := T2.rules
  obtain ⟨l0, l1, -⟩ := T2.lts
  go_wp2_with fail
  replace T2 := (T2.perm (cs := [(w.heap.size + 1, 48, mcA Mc.zero), (w.heap.size, 48, mcA ⟨m.k, m.f, m.t, m.d, .slice A' m.l.length c', m.n, m.a⟩)]) (by simp)).setMc (Nat.le_succ _) ⟨by omega, trivial⟩ ⟨m.k, m.f, m.t, m.d, .slice A' m.l.length c', m.n, m.a⟩
  refine bodyPost_ret (v := .agg (mcA ⟨m.k, m.f, m.t, m.d, .slice A' m.l.length c', m.n, m.a⟩)) (results_msg (s := 2) (by kernel_rfl) _ (w.heap.size + 1) _ _ rfl (T2.blk _ _ _ List.mem_cons_self)) rfl ⟨_, rfl, ?_, T2.below⟩
  refine own_mono ?_ (show w.heap.size ≤ w.heap.size + 2 by omega)
  repeat refine own_far ?_ (show w.heap.size + 1 < w.heap.size + 2 by omega) _
  exact own2
end Go.Proofs.Ytnhjphmcdamoaaa
