/-
  The walk of the document's package leatref08: May.
-/
import Derived.Test.YtgbbhkdaalnchaaGF
namespace Go.Proofs.Ytgbbhkdaalnchaa
set_option linter.unusedVariables false
set_option linter.unusedSimpArgs false
open Go.RowKit

set_option maxHeartbeats 1000000 in
theorem rmay_no (e : Ev) (hv : e.ok) (h : placeB e = false) (w : World) : Calls Try.prog 49 #[.agg (evA e)] w fun r w' => r = .returned (.bool false) ∧ Below w.heap.size w w' := by
  rcases place_no e h hv with hr | ⟨k, hk, ho, h1 | ⟨h1, h2⟩ | ⟨h1, h2, h3⟩ | ⟨h1, h2, h3, h4⟩⟩
  · have C1 := Lib.hid (rregion_is e.o false hr)
    clear hr h
    go_enter Try.func49, Try.ntmps49
    go_wp2_with fail
    go_quiet ((go_at_call 54; exact Calls.quiet_of_same ((C1.out _).mono fun _ _ ⟨h1, h2⟩ => ⟨h1, h2.symm⟩)))
    go_wp2_with fail
    go_ret
    exact ⟨rfl, below_drewN ((Below.refl _ _).alloc (Nat.le_refl _) _) _⟩
  · have C1 := Lib.hid (rregion_is e.o true (by rw [ho]; exact regE_yes k hk))
    have d1 : decide (e.s < 1) = true := by simpa using h1
    clear ho h
    go_enter Try.func49, Try.ntmps49
    go_wp2_with fail
    go_quiet ((go_at_call 54; exact Calls.quiet_of_same ((C1.out _).mono fun _ _ ⟨h1, h2⟩ => ⟨h1, h2.symm⟩)))
    go_wp2_with fail
    go_ret
    exact ⟨rfl, below_drewN ((Below.refl _ _).alloc (Nat.le_refl _) _) _⟩
  · have C1 := Lib.hid (rregion_is e.o true (by rw [ho]; exact regE_yes k hk))
    have d1 : decide (e.s < 1) = false := by simpa using h1
    have d2 : decide (1099511627776 ≤ e.s) = true := by simpa using h2
    clear ho h
    go_enter Try.func49, Try.ntmps49
    go_wp2_with fail
    go_quiet ((go_at_call 54; exact Calls.quiet_of_same ((C1.out _).mono fun _ _ ⟨h1, h2⟩ => ⟨h1, h2.symm⟩)))
    go_wp2_with fail
    go_ret
    exact ⟨rfl, below_drewN ((Below.refl _ _).alloc (Nat.le_refl _) _) _⟩
  · have C1 := Lib.hid (rregion_is e.o true (by rw [ho]; exact regE_yes k hk))
    have d1 : decide (e.s < 1) = false := by simpa using h1
    have d2 : decide (1099511627776 ≤ e.s) = false := by simpa using h2
    have s1 : IntKind.u64.wrap (e.s - 1) = e.s - 1 := IntWalk.u64_in _ (by omega)
    have o1 : IntKind.i64.wrap (e.o - 1) = (k : Int) := by rw [ho]; simp; exact IntWalk.i64_in _ (by omega)
    have i1 : (0 : Int) ≤ (k : Int) := by omega
    have i2 : (k : Int) < 6 := by omega
    have g1 := evA_dep e k hk
    have n1 : (e.d.get k != e.s - 1) = true := by simpa [bne] using h3
    clear ho h h3
    go_enter Try.func49, Try.ntmps49
    go_wp2_with fail
    go_quiet ((go_at_call 54; exact Calls.quiet_of_same ((C1.out _).mono fun _ _ ⟨h1, h2⟩ => ⟨h1, h2.symm⟩)))
    go_wp2_with fail
    go_ret
    exact ⟨rfl, below_drewN ((Below.refl _ _).alloc (Nat.le_refl _) _) _⟩
  · have C1 := Lib.hid (rregion_is e.o true (by rw [ho]; exact regE_yes k hk))
    have d1 : decide (e.s < 1) = false := by simpa using h1
    have d2 : decide (1099511627776 ≤ e.s) = false := by simpa using h2
    have s1 : IntKind.u64.wrap (e.s - 1) = e.s - 1 := IntWalk.u64_in _ (by omega)
    have o1 : IntKind.i64.wrap (e.o - 1) = (k : Int) := by rw [ho]; simp; exact IntWalk.i64_in _ (by omega)
    have i1 : (0 : Int) ≤ (k : Int) := by omega
    have i2 : (k : Int) < 6 := by omega
    have g1 := evA_dep e k hk
    have n1 : (e.d.get k != e.s - 1) = false := by simpa [bne] using h3
    have HM := Lib.hid h4
    clear ho h h3 h4
    go_enter Try.func49, Try.ntmps49
    go_wp2_with fail
    go_quiet ((go_at_call 54; exact Calls.quiet_of_same ((C1.out _).mono fun _ _ ⟨h1, h2⟩ => ⟨h1, h2.symm⟩)))
    have T0 := ((Trk.nil w).push (t := 32) (cs := evA e) rfl).drewN nq
    go_wp2_with fail
    clear g1 o1 i1 i2
    go_loopw [3] (fun i wr => ∃ k : Nat, k ≤ 6 ∧ i = .int .i64 k ∧ (∀ j, j < k → e.d.get j < 1099511627776) ∧ Trk w wr [(w.heap.size, 32, evA e)]) (fun i _ => 6 - (intOf i).toNat)
    case atStart => exact ⟨0, by omega, rfl, fun j hj => absurd hj (by omega), T0⟩
    case round =>
      obtain ⟨k, hk, rfl, hall, T⟩ := hrel
      have HA := Lib.hid hall
      clear hall T0
      obtain ⟨q0, -, -⟩ := T.rules
      by_cases hlt : k < 6
      · have g1 := evA_dep e k hlt
        have i1 : (0 : Int) ≤ (k : Int) := by omega
        have i2 : (k : Int) < 6 := by omega
        by_cases hge : 1099511627776 ≤ e.d.get k
        · go_wp2_with fail
          go_ret
          exact ⟨rfl, T.below⟩
        · go_wp2_with fail
          go_roundw
          case rel => exact ⟨k + 1, by omega, by go_num, fun j hj => if ej : j = k then by subst ej; omega else HA.out j (by omega), T⟩
          case measure => simp [intOf]; omega
      · obtain rfl : k = 6 := by omega
        have := belowMax_iff.2 HA.out
        rw [HM.out] at this
        cases this

set_option maxHeartbeats 2000000 in
theorem rmay_yes (e : Ev) (hv : e.ok) (h : placeB e = true) (w : World) : Calls Try.prog 49 #[.agg (evA e)] w fun r w' => r = .returned (.bool (decide (e = ownE e) && fieldsB e)) ∧ Below w.heap.size w w' := by
  obtain ⟨k, hk, ho, h1, h2, h3, h4⟩ := place_yes e h
  have C1 := Lib.hid (rregion_is e.o true (by rw [ho]; exact regE_yes k hk))
  have d1 : decide (e.s < 1) = false := by simpa using h1
  have d2 : decide (1099511627776 ≤ e.s) = false := by simpa using h2
  have s1 : IntKind.u64.wrap (e.s - 1) = e.s - 1 := IntWalk.u64_in _ (by omega)
  have o1 : IntKind.i64.wrap (e.o - 1) = (k : Int) := by rw [ho]; simp; exact IntWalk.i64_in _ (by omega)
  have i1 : (0 : Int) ≤ (k : Int) := by omega
  have i2 : (k : Int) < 6 := by omega
  have g1 := evA_dep e k hk
  have n1 : (e.d.get k != e.s - 1) = false := by simpa [bne] using h3
  have HM := Lib.hid (belowMax_iff.1 h4)
  clear ho h h3 h4
  obtain ⟨R, hR⟩ : ∃ R, R = ownE e := ⟨_, rfl⟩
  obtain ⟨fb, hfb⟩ : ∃ b, fieldsB e = b := ⟨_, rfl⟩
  obtain ⟨zb, hz⟩ : ∃ b, decide (e = R) = b := ⟨_, rfl⟩
  have c2 := rown e
  have c3 := rfields e
  rw [← hR] at c2
  rw [hfb] at c3
  have C2 := Lib.hid c2
  have C3 := Lib.hid c3
  have HR := Lib.hid hR
  have HF := Lib.hid hfb
  have HZ := Lib.hid hz
  clear c2 c3 hR hfb hz
  go_enter Try.func49, Try.ntmps49
  go_wp2_with fail
  go_quiet ((go_at_call 54; exact Calls.quiet_of_same ((C1.out _).mono fun _ _ ⟨h1, h2⟩ => ⟨h1, h2.symm⟩)))
  have T0 := ((Trk.nil w).push (t := 32) (cs := evA e) rfl).drewN nq
  go_wp2_with fail
  clear g1 o1 i1 i2 hk
  go_loopw [3] (fun i wr => ∃ k : Nat, k ≤ 6 ∧ i = .int .i64 k ∧ Trk w wr [(w.heap.size, 32, evA e)]) (fun i _ => 6 - (intOf i).toNat)
  case atStart => exact ⟨0, by omega, rfl, T0⟩
  case round =>
    obtain ⟨k, hk, rfl, T⟩ := hrel
    clear T0
    by_cases hlt : k < 6
    · have g1 := evA_dep e k hlt
      obtain ⟨q0, -, -⟩ := T.rules
      have i1 : (0 : Int) ≤ (k : Int) := by omega
      have i2 : (k : Int) < 6 := by omega
      have hge : ¬ 1099511627776 ≤ e.d.get k := by have := HM.out k hlt; omega
      go_wp2_with fail
      go_roundw
      case rel => exact ⟨k + 1, by omega, by go_num, T⟩
      case measure => simp [intOf]; omega
    · obtain rfl : k = 6 := by omega
      have hz := HZ.out
      obtain ⟨q0, -, -⟩ := T.rules
      obtain ⟨l0, -⟩ := T.lts
      rcases (show zb = false ∨ zb = true from by cases zb <;> simp) with rfl | rfl
      all_goals
        go_wp2_with fail
        refine wp_region_later (by kernel_rfl) (by kernel_rfl) ?_
        repeat (go_big_quiet_step (first | (go_at_call 67; with_reducible exact Calls.later (C2.out _)) | (go_at_call 68; with_reducible exact Calls.later (C3.out _))))
        refine wpQuiet_nil ?_
        rintro w3 ⟨x, rfl⟩
        have T3 := T.call x.below
        generalize x.w = w3 at T3
        go_wp2_with fail
        go_ret
        exact ⟨by rw [← HR.out, HF.out, HZ.out]; rfl, T3.below⟩
theorem rmay8 (e : Ev) (hv : e.ok) (w : World) : Calls Try.prog 49 #[.agg (evA e)] w fun r w' => r = .returned (.bool (emayB e)) ∧ Below w.heap.size w w' := by
  rw [emayB_own]
  cases h : placeB e with
  | false => exact rmay_no e hv h w
  | true => rw [Bool.true_and]; exact rmay_yes e hv h w
theorem rmay8' (e : Ev) (hv : e.ok) (b : Bool) (h : emayB e = b) (w : World) : Calls Try.prog 49 #[.agg (evA e)] w fun r w' => r = .returned (.bool b) ∧ Below w.heap.size w w' := by
  subst h; exact rmay8 e hv w
end Go.Proofs.Ytgbbhkdaalnchaa
