/-
  The walk of package event: May, where the place may be; and the whole.
-/
import Derived.Test.YtgbbhkdaalnchaaEw
import Derived.Test.YtgbbhkdaalnchaaGA
namespace Go.Proofs.Ytgbbhkdaalnchaa
set_option linter.unusedVariables false
set_option linter.unusedSimpArgs false
open Go.RowKit

set_option maxHeartbeats 1000000 in
set_option maxRecDepth 100000 in
theorem emay_yes (e : Ev) (hv : e.ok) (h : placeB e = true) (w : World) : Calls Try.prog 44 #[.agg (evA e)] w fun r w' => r = .returned (.bool (fieldsB e && decide (leftE e = e.bare))) ∧ Below w.heap.size w w' := by
  obtain ⟨k, hk, ho, h1, h2, h3, h4⟩ := place_yes e h
  have C1 := Lib.hid (eregion_is e.o true (by rw [ho]; exact regE_yes k hk))
  have d1 : decide (e.s < 1) = false := by simpa using h1
  have d2 : decide (1099511627776 ≤ e.s) = false := by simpa using h2
  have s1 : IntKind.u64.wrap (e.s - 1) = e.s - 1 := IntWalk.u64_in _ (by omega)
  have o1 : IntKind.i64.wrap (e.o - 1) = (k : Int) := by rw [ho]; simp; exact IntWalk.i64_in _ (by omega)
  have i1 : (0 : Int) ≤ (k : Int) := by omega
  have i2 : (k : Int) < 6 := by omega
  have g1 := evA_dep e k hk
  have n1 : (e.d.get k != e.s - 1) = false := by simpa [bne] using h3
  have hm : decide (1099511627776 ≤ vmx e.d 5) = false := by rw [vmx_below, h4]; rfl
  have C2 := Lib.hid fun W hc => smax_any w.heap.size e.d W hc
  obtain ⟨fb, hfb⟩ : ∃ b, fieldsB e = b := ⟨_, rfl⟩
  have HF := Lib.hid hfb
  have c3 := fun (W : World) (T : Trk w W [(w.heap.size + 1, 118, evA e), (w.heap.size, 32, evA e)]) => ekind_any T (Nat.le_succ _) ⟨by omega, trivial⟩
  rw [hfb] at c3
  have C3 := Lib.hid c3
  clear ho h h3 h4 hfb c3
  rcases (show fb = false ∨ fb = true from by cases fb <;> simp) with rfl | rfl
  · go_enter Try.func44, Try.ntmps44
    go_wp2_with fail
    go_quiet ((go_at_call 64; exact Calls.quiet_of_same ((C1.out _).mono fun _ _ ⟨h1, h2⟩ => ⟨h1, h2.symm⟩)))
    have T0 := ((Trk.nil w).push (t := 32) (cs := evA e) rfl).drewN nq
    go_wp2_with fail
    refine (C2.out _ ?hc).mono ?_
    (case hc => exact fun i hi => ((T0.blk _ _ _ List.mem_cons_self).cell (2 + i)).trans (evA_dep e i hi))
    rintro r w1 ⟨rfl, rfl⟩
    go_wp2_with fail
    have T1 := T0.push (t := 118) (cs := evA e) (g := w.heap.size + 1) (by simp)
    refine wp_region_preq 3 (by kernel_rfl) (by kernel_rfl) (by decide) (by kernel_rfl) (by kernel_rfl) ?_
    simp only [List.take_succ_cons, List.take_zero, List.drop_succ_cons, List.drop_zero]
    have T2 := T1.drew
    go_wp2_with (go_at_call 66; (refine (C3.out _ T2).mono ?_); rintro r w2 ⟨rfl, e', T3, -⟩)
    obtain ⟨q0, -, q1, -, -⟩ := T3.rules
    obtain ⟨l0, l1, -⟩ := T3.lts
    refine preL ?_
    repeat (go_big_quiet_step (fail))
    refine wpQuiet_nil ?_
    rintro w3 ⟨x, rfl⟩
    have T4 := T3.call x.below
    generalize x.w = w3 at T4
    go_wp2_with fail
    go_ret
    refine ⟨?_, T4.below⟩
    rw [HF.out]; rfl
  · go_enter Try.func44, Try.ntmps44
    go_wp2_with fail
    go_quiet ((go_at_call 64; exact Calls.quiet_of_same ((C1.out _).mono fun _ _ ⟨h1, h2⟩ => ⟨h1, h2.symm⟩)))
    have T0 := ((Trk.nil w).push (t := 32) (cs := evA e) rfl).drewN nq
    go_wp2_with fail
    refine (C2.out _ ?hc).mono ?_
    (case hc => exact fun i hi => ((T0.blk _ _ _ List.mem_cons_self).cell (2 + i)).trans (evA_dep e i hi))
    rintro r w1 ⟨rfl, rfl⟩
    go_wp2_with fail
    have T1 := T0.push (t := 118) (cs := evA e) (g := w.heap.size + 1) (by simp)
    refine wp_region_preq 3 (by kernel_rfl) (by kernel_rfl) (by decide) (by kernel_rfl) (by kernel_rfl) ?_
    simp only [List.take_succ_cons, List.take_zero, List.drop_succ_cons, List.drop_zero]
    have T2 := T1.drew
    go_wp2_with (go_at_call 66; (refine (C3.out _ T2).mono ?_); rintro r w2 ⟨rfl, e', T3, he'⟩; have HE := Lib.hid he'; clear he')
    obtain ⟨q0, -, q1, -, -⟩ := T3.rules
    obtain ⟨l0, l1, -⟩ := T3.lts
    refine preL ?_
    repeat (go_big_quiet_step (fail))
    refine wpQuiet_nil ?_
    rintro w3 ⟨x, rfl⟩
    have T4 := T3.call x.below
    generalize x.w = w3 at T4
    go_wp2_with fail
    go_ret
    refine ⟨?_, T4.below⟩
    rw [HF.out, Bool.true_and, ← HE.out HF.out]; rfl
theorem emay (e : Ev) (hv : e.ok) (w : World) : Calls Try.prog 44 #[.agg (evA e)] w fun r w' => r = .returned (.bool (emayB e)) ∧ Below w.heap.size w w' := by
  unfold emayB
  cases h : placeB e with
  | false => exact emay_no e hv h w
  | true => rw [Bool.true_and]; exact emay_yes e hv h w
theorem emay' (e : Ev) (hv : e.ok) (b : Bool) (h : emayB e = b) (w : World) : Calls Try.prog 44 #[.agg (evA e)] w fun r w' => r = .returned (.bool b) ∧ Below w.heap.size w w' := by
  subst h; exact emay e hv w
end Go.Proofs.Ytgbbhkdaalnchaa
