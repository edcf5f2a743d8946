/-
  The walks of the document's package leatref10: Ready, Late.
-/
import Derived.Test.YtgbbhkdaalnchaaOr
namespace Go.Proofs.Ytgbbhkdaalnchaa
set_option linter.unusedVariables false
set_option linter.unusedSimpArgs false
open Go.RowKit

set_option maxHeartbeats 1000000 in
theorem rready (v : Vec) (hvv : v.ok) (e : Ev) (hv : e.ok) (w : World) : Calls Try.prog 48 #[.agg (vecA v), .agg (evA e)] w fun r w' => r = .returned (.bool (readyB v e)) ∧ Below w.heap.size w w' := by
  cases hm : emayB e with
  | false =>
    have C1 := Lib.hid (rmay8' e hv false hm)
    have HR := Lib.hid (show readyB v e = false by unfold readyB; rw [hm]; rfl)
    clear hm
    go_enter Try.func48, Try.ntmps48
    go_wp2_with fail
    have T : Trk w _ _ := ((Trk.nil w).push (t := 30) (cs := vecA v) rfl).push (t := 32) (cs := evA e) (g := w.heap.size + 1) (by simp)
    generalize (w.alloc _).alloc _ = W at T ⊢
    obtain ⟨q1, -, q0, -, -⟩ := T.rules
    obtain ⟨l1, l0, -⟩ := T.lts
    refine wp_region_later (by kernel_rfl) (by kernel_rfl) ?_
    repeat (go_big_quiet_step (first | (go_at_call 49; with_reducible exact Calls.later (C1.out _))))
    refine wpQuiet_nil ?_
    rintro w3 ⟨x, rfl⟩
    have T3 := T.call x.below
    generalize x.w = w3 at T3
    go_wp2_with fail
    go_ret
    exact ⟨by rw [HR.out]; rfl, T3.below⟩
  | true =>
    obtain ⟨k, hk, ho, h1, h2, h3, h4⟩ := place_yes e (emay_place hm)
    obtain ⟨lb, hl⟩ : ∃ b, vlessB e.d v = b := ⟨_, rfl⟩
    have e1 : (e.o - 1).toNat = k := by omega
    have HR := Lib.hid (show readyB v e = (decide (v.get k = e.s - 1) && lb) by unfold readyB; rw [hm, e1, hl]; rfl)
    have HL := Lib.hid hl
    have C1 := Lib.hid (rmay8' e hv true hm)
    obtain ⟨v0, v1⟩ := hvv k hk
    have o1 : IntKind.i64.wrap (e.o - 1) = (k : Int) := by rw [ho]; simp; exact IntWalk.i64_in _ (by omega)
    have i1 : (0 : Int) ≤ (k : Int) := by omega
    have i2 : (k : Int) < 6 := by omega
    have g1 := vecA_get v k hk
    obtain ⟨nb, hn⟩ : ∃ b, (e.s != IntKind.u64.wrap (v.get k + 1)) = b := ⟨_, rfl⟩
    have HN := Lib.hid (show decide (v.get k = e.s - 1) = !nb by
      rw [← hn, IntKind.wrap_u64, bne, Bool.not_not, Bool.eq_iff_iff, decide_eq_true_eq, beq_iff_eq]
      omega)
    clear hm ho h3 h4 hl e1 v0 v1
    rcases (show nb = false ∨ nb = true from by cases nb <;> simp) with rfl | rfl
    all_goals
      go_enter Try.func48, Try.ntmps48
      go_wp2_with fail
      have T : Trk w _ _ := ((Trk.nil w).push (t := 30) (cs := vecA v) rfl).push (t := 32) (cs := evA e) (g := w.heap.size + 1) (by simp)
      generalize (w.alloc _).alloc _ = W at T ⊢
      obtain ⟨q1, -, q0, -, -⟩ := T.rules
      obtain ⟨l1, l0, -⟩ := T.lts
      refine wp_region_later (by kernel_rfl) (by kernel_rfl) ?_
      repeat (go_big_quiet_step (first | (go_at_call 49; with_reducible exact Calls.later (C1.out _))))
      refine wpQuiet_nil ?_
      rintro w3 ⟨x, rfl⟩
      have T3 := T.call x.below
      generalize x.w = w3 at T3
      clear x q0 q1 l0 l1 T
      go_wp2_with fail
    · clear o1 i1 i2 g1 hn
      go_loopw [5] (fun i wr => ∃ k : Nat, k ≤ 6 ∧ i = .int .i64 k ∧ (∀ j, j < k → e.d.get j ≤ v.get j) ∧ Trk w wr [(w.heap.size + 1, 32, evA e), (w.heap.size, 30, vecA v)]) (fun i _ => 6 - (intOf i).toNat)
      case atStart => exact ⟨0, by omega, rfl, fun j hj => absurd hj (by omega), T3⟩
      case round =>
        obtain ⟨k, hk, rfl, hall, T⟩ := hrel
        have HA := Lib.hid hall
        clear hall T3
        obtain ⟨q1, -, q0, -, -⟩ := T.rules
        by_cases hlt : k < 6
        · have g1 := evA_dep e k hlt
          have g2 := vecA_get v k hlt
          have i1 : (0 : Int) ≤ (k : Int) := by omega
          have i2 : (k : Int) < 6 := by omega
          by_cases hge : v.get k < e.d.get k
          · go_wp2_with fail
            go_quiet (fail)
            go_wp2_with fail
            go_ret
            refine ⟨?_, (T.drewN _).below⟩
            have : lb = false := by
              rw [← HL.out, Bool.eq_false_iff, Ne, vlessB_iff]
              intro h; have := h k hlt; omega
            rw [HR.out, this, Bool.and_false]; rfl
          · go_wp2_with fail
            go_quiet (fail)
            go_wp2_with fail
            go_roundw
            case rel => exact ⟨k + 1, by omega, by go_num, fun j hj => if ej : j = k then by subst ej; omega else HA.out j (by omega), T.drewN _⟩
            case measure => simp [intOf]; omega
        · obtain rfl : k = 6 := by omega
          go_wp2_with fail
          go_ret
          refine ⟨?_, T.below⟩
          have : lb = true := by rw [← HL.out, vlessB_iff]; exact HA.out
          rw [HR.out, this, HN.out]; rfl
    · go_ret
      exact ⟨by rw [HR.out, HN.out]; rfl, T3.below⟩
theorem rlate (v : Vec) (e : Ev) (hv : e.ok) (w : World) : Calls Try.prog 47 #[.agg (vecA v), .agg (evA e)] w fun r w' => r = .returned (.bool (lateB v e)) ∧ Below w.heap.size w w' := by
  cases hm : emayB e with
  | false =>
    have C1 := Lib.hid (rmay8' e hv false hm)
    have HR := Lib.hid (show lateB v e = false by unfold lateB; rw [hm]; rfl)
    clear hm
    go_enter Try.func47, Try.ntmps47
    go_wp2_with fail
    have T : Trk w _ _ := ((Trk.nil w).push (t := 30) (cs := vecA v) rfl).push (t := 32) (cs := evA e) (g := w.heap.size + 1) (by simp)
    generalize (w.alloc _).alloc _ = W at T ⊢
    obtain ⟨q1, -, q0, -, -⟩ := T.rules
    obtain ⟨l1, l0, -⟩ := T.lts
    refine wp_region_later (by kernel_rfl) (by kernel_rfl) ?_
    repeat (go_big_quiet_step (first | (go_at_call 49; with_reducible exact Calls.later (C1.out _))))
    refine wpQuiet_nil ?_
    rintro w3 ⟨x, rfl⟩
    have T3 := T.call x.below
    generalize x.w = w3 at T3
    go_wp2_with fail
    go_ret
    exact ⟨by rw [HR.out]; rfl, T3.below⟩
  | true =>
    obtain ⟨k, hk, ho, h1, h2, h3, h4⟩ := place_yes e (emay_place hm)
    have e1 : (e.o - 1).toNat = k := by omega
    have HR := Lib.hid (show lateB v e = decide (e.s ≤ v.get k) by unfold lateB; rw [hm, e1]; rfl)
    have C1 := Lib.hid (rmay8' e hv true hm)
    have o1 : IntKind.i64.wrap (e.o - 1) = (k : Int) := by rw [ho]; simp; exact IntWalk.i64_in _ (by omega)
    have i1 : (0 : Int) ≤ (k : Int) := by omega
    have i2 : (k : Int) < 6 := by omega
    have g1 := vecA_get v k hk
    clear hm ho h3 h4 e1
    go_enter Try.func47, Try.ntmps47
    go_wp2_with fail
    have T : Trk w _ _ := ((Trk.nil w).push (t := 30) (cs := vecA v) rfl).push (t := 32) (cs := evA e) (g := w.heap.size + 1) (by simp)
    generalize (w.alloc _).alloc _ = W at T ⊢
    obtain ⟨q1, -, q0, -, -⟩ := T.rules
    obtain ⟨l1, l0, -⟩ := T.lts
    refine wp_region_later (by kernel_rfl) (by kernel_rfl) ?_
    repeat (go_big_quiet_step (first | (go_at_call 49; with_reducible exact Calls.later (C1.out _))))
    refine wpQuiet_nil ?_
    rintro w3 ⟨x, rfl⟩
    have T3 := T.call x.below
    generalize x.w = w3 at T3
    go_wp2_with fail
    go_ret
    exact ⟨by rw [HR.out]; rfl, T3.below⟩
end Go.Proofs.Ytgbbhkdaalnchaa
