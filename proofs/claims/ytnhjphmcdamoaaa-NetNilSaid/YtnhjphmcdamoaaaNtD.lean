/-
  The walk of leatlaw23.NetNil.
-/
import Derived.Test.YtnhjphmcdamoaaaNtC
namespace Go.Proofs.Ytnhjphmcdamoaaa
set_option linter.unusedVariables false
set_option linter.unusedSimpArgs false
open Go.RowKit Go
set_option maxRecDepth 100000

theorem nput_nil (x : Mc) (w : World) : Calls Try.prog 33 #[.pointer none, .agg (mcA x)] w fun e w' => e = .returned (.int .i64 2) ∧ Below w.heap.size w w' := by
  go_enter Try.func33, Try.ntmps33
  go_wp2_with fail
  go_ret
  exact ⟨rfl, (Below.refl _ _).alloc (Nat.le_refl _) _⟩
set_option maxHeartbeats 4000000 in
theorem netnil_law (m : Ms) (A : Option Addr) (c : Nat) (k : Int) (w : World) :
    Calls Try.prog 9 #[.agg (mcA ⟨m.k, m.f, m.t, m.d, .slice A m.l.length c, m.n, m.a⟩), .int .i64 k] w fun r w' => r = .returned (.bool true) ∧ Below w.heap.size w w' := by
  generalize m.l.length = n
  by_cases hn : 20 < n
  · have d1 : decide ((20 : Int) < (n : Int)) = true := decide_eq_true (by omega)
    go_enter Try.func9, Try.ntmps9
    go_wp2_with fail
    have T0 : Trk w _ [(w.heap.size, 48, mcA ⟨m.k, m.f, m.t, m.d, .slice A n c, m.n, m.a⟩)] := (Trk.nil w).push (t := 48) (cs := mcA ⟨m.k, m.f, m.t, m.d, .slice A n c, m.n, m.a⟩) rfl
    refine (works23 _).mono ?_
    rintro r w1 ⟨rfl, hb⟩
    have T1 := T0.call hb
    go_wp2_with fail
    go_ret
    exact ⟨rfl, T1.below⟩
  · have d1 : decide ((20 : Int) < (n : Int)) = false := decide_eq_false (by omega)
    go_enter Try.func9, Try.ntmps9
    go_wp2_with fail
    have T0 : Trk w _ [(w.heap.size, 48, mcA ⟨m.k, m.f, m.t, m.d, .slice A n c, m.n, m.a⟩)] := (Trk.nil w).push (t := 48) (cs := mcA ⟨m.k, m.f, m.t, m.d, .slice A n c, m.n, m.a⟩) rfl
    refine (ntake_nil _).mono ?_
    rintro r w1 ⟨rfl, hb⟩
    have T1 := (T0.call hb).push (t := 48) (cs := mcA Mc.zero) rfl
    clear T0 hb
    go_wp2_with fail
    refine (nheal_nil _).mono ?_
    rintro r w2 ⟨rfl, rfl⟩
    generalize w1.alloc _ = w2 at T1 ⊢
    obtain ⟨q1, f1, q0, f0, -⟩ := T1.rules
    obtain ⟨l1, l0, -⟩ := T1.lts
    go_wp2_with fail
    refine (nput_nil _ _).mono ?_
    rintro r w3 ⟨rfl, hb⟩
    have T3 := T1.call hb
    clear T1 hb q0 f0 q1 f1 l0 l1
    go_wp2_with fail
    refine (ndrop_nil _).mono ?_
    rintro r w4 ⟨rfl, hb⟩
    have T4 := T3.call hb
    clear T3 hb
    go_wp2_with fail
    refine (ntwice_nil _).mono ?_
    rintro r w5 ⟨rfl, rfl⟩
    go_wp2_with fail
    refine (ncut_nil _ _ _).mono ?_
    rintro r w5 ⟨rfl, rfl⟩
    go_wp2_with fail
    refine (nlen_nil _).mono ?_
    rintro r w5 ⟨rfl, rfl⟩
    go_wp2_with fail
    refine (works23 _).mono ?_
    rintro r w5 ⟨rfl, hb⟩
    have T5 := T4.call hb
    go_wp2_with fail
    go_ret
    exact ⟨rfl, T5.below⟩
end Go.Proofs.Ytnhjphmcdamoaaa
