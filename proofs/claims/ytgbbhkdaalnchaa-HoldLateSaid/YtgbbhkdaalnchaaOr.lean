/-
  The walks of package order: Ready, Late; and of the document's package leatref10: Ready, Late.
-/
import Derived.Test.YtgbbhkdaalnchaaEs
namespace Go.Proofs.Ytgbbhkdaalnchaa
set_option linter.unusedVariables false
set_option linter.unusedSimpArgs false
open Go.RowKit

/-- Has an event's time come? Is it late? -/
def readyB (v : Vec) (e : Ev) : Bool := emayB e && (decide (v.get (e.o - 1).toNat = e.s - 1) && vlessB e.d v)
def lateB (v : Vec) (e : Ev) : Bool := emayB e && decide (e.s ≤ v.get (e.o - 1).toNat)
theorem emay_place {e : Ev} (h : emayB e = true) : placeB e = true := by
  unfold emayB at h
  rw [Bool.and_eq_true] at h
  exact h.1
set_option maxHeartbeats 1000000 in
theorem oready (v : Vec) (e : Ev) (hv : e.ok) (w : World) : Calls Try.prog 46 #[.agg (vecA v), .agg (evA e)] w fun r w' => r = .returned (.bool (readyB v e)) ∧ Below w.heap.size w w' := by
  cases hm : emayB e with
  | false =>
    have C1 := Lib.hid (emay' e hv false hm)
    have HR := Lib.hid (show readyB v e = false by unfold readyB; rw [hm]; rfl)
    clear hm
    go_enter Try.func46, Try.ntmps46
    go_wp2_with fail
    have T : Trk w _ _ := ((Trk.nil w).push (t := 30) (cs := vecA v) rfl).push (t := 32) (cs := evA e) (g := w.heap.size + 1) (by simp)
    generalize (w.alloc _).alloc _ = W at T ⊢
    obtain ⟨q1, -, q0, -, -⟩ := T.rules
    obtain ⟨l1, l0, -⟩ := T.lts
    refine wp_region_later (by kernel_rfl) (by kernel_rfl) ?_
    repeat (go_big_quiet_step (first | (go_at_call 44; with_reducible exact Calls.later (C1.out _))))
    refine wpQuiet_nil ?_
    rintro w3 ⟨x, rfl⟩
    have T3 := T.call x.below
    generalize x.w = w3 at T3
    go_wp2_with fail
    go_ret
    exact ⟨by rw [HR.out]; rfl, T3.below⟩
  | true =>
    obtain ⟨k, hk, ho, h1, h2, h3, h4⟩ := place_yes e (emay_place hm)
    obtain ⟨lb, hl⟩ : ∃ b, vlessB e.d v = b := ⟨_, rfl⟩
    have e1 : (e.o - 1).toNat = k := by omega
    have HR := Lib.hid (show readyB v e = (decide (v.get k = e.s - 1) && lb) by unfold readyB; rw [hm, e1, hl]; rfl)
    have C1 := Lib.hid (emay' e hv true hm)
    have C2 := Lib.hid fun W => vless e.d v W
    have C2 : Hid (∀ W, Calls Try.prog 30 #[.agg (vecA e.d), .agg (vecA v)] W fun e w' => e = .returned (.bool lb) ∧ Below W.heap.size W w') := by
      have c := C2.out
      rw [hl] at c
      exact Lib.hid c
    have s1 : IntKind.u64.wrap (e.s - 1) = e.s - 1 := IntWalk.u64_in _ (by omega)
    have o1 : IntKind.i64.wrap (e.o - 1) = (k : Int) := by rw [ho]; simp; exact IntWalk.i64_in _ (by omega)
    have i1 : (0 : Int) ≤ (k : Int) := by omega
    have i2 : (k : Int) < 6 := by omega
    have g1 := vecA_get v k hk
    obtain ⟨nb, hn⟩ : ∃ b, (v.get k == e.s - 1) = b := ⟨_, rfl⟩
    have HN := Lib.hid (show decide (v.get k = e.s - 1) = nb by rw [← hn]; rfl)
    clear hm ho h3 h4 hl e1
    rcases (show nb = false ∨ nb = true from by cases nb <;> simp) with rfl | rfl
    all_goals
      go_enter Try.func46, Try.ntmps46
      go_wp2_with fail
      have T : Trk w _ _ := ((Trk.nil w).push (t := 30) (cs := vecA v) rfl).push (t := 32) (cs := evA e) (g := w.heap.size + 1) (by simp)
      generalize (w.alloc _).alloc _ = W at T ⊢
      obtain ⟨q1, -, q0, -, -⟩ := T.rules
      obtain ⟨l1, l0, -⟩ := T.lts
      refine wp_region_later (by kernel_rfl) (by kernel_rfl) ?_
      repeat (go_big_quiet_step (first | (go_at_call 44; with_reducible exact Calls.later (C1.out _)) | (go_at_call 30; with_reducible exact Calls.later (C2.out _))))
      refine wpQuiet_nil ?_
      rintro w3 ⟨x, rfl⟩
      have T3 := T.call x.below
      generalize x.w = w3 at T3
      go_wp2_with fail
      go_ret
      exact ⟨by rw [HR.out, HN.out]; rfl, T3.below⟩
theorem olate (v : Vec) (e : Ev) (hv : e.ok) (w : World) : Calls Try.prog 45 #[.agg (vecA v), .agg (evA e)] w fun r w' => r = .returned (.bool (lateB v e)) ∧ Below w.heap.size w w' := by
  cases hm : emayB e with
  | false =>
    have C1 := Lib.hid (emay' e hv false hm)
    have HR := Lib.hid (show lateB v e = false by unfold lateB; rw [hm]; rfl)
    clear hm
    go_enter Try.func45, Try.ntmps45
    go_wp2_with fail
    have T : Trk w _ _ := ((Trk.nil w).push (t := 30) (cs := vecA v) rfl).push (t := 32) (cs := evA e) (g := w.heap.size + 1) (by simp)
    refine (Calls.trk (C1.out _) T).mono ?_
    rintro r w1 ⟨rfl, T1, -⟩
    go_wp2_with fail
    go_ret
    exact ⟨by rw [HR.out]; rfl, T1.below⟩
  | true =>
    obtain ⟨k, hk, ho, h1, h2, h3, h4⟩ := place_yes e (emay_place hm)
    have e1 : (e.o - 1).toNat = k := by omega
    have HR := Lib.hid (show lateB v e = vhasB v e.o e.s by
      unfold lateB vhasB
      rw [hm, show regB e.o = true from by rw [ho]; exact regB_yes k hk, show decide (0 < e.s) = true from by simp; omega]
      rfl)
    have C1 := Lib.hid (emay' e hv true hm)
    have C2 := Lib.hid fun W => vhas v e.o e.s W
    clear hm ho h3 h4 e1
    go_enter Try.func45, Try.ntmps45
    go_wp2_with fail
    have T : Trk w _ _ := ((Trk.nil w).push (t := 30) (cs := vecA v) rfl).push (t := 32) (cs := evA e) (g := w.heap.size + 1) (by simp)
    refine (Calls.trk (C1.out _) T).mono ?_
    rintro r w1 ⟨rfl, T1, q1, -, q0, -, -⟩
    go_wp2_with (go_at_call 32; (with_reducible refine (Calls.trk (C2.out _) T1).mono ?_); rintro r w2 ⟨rfl, T2, -⟩)
    go_ret
    exact ⟨by rw [HR.out]; rfl, T2.below⟩
end Go.Proofs.Ytgbbhkdaalnchaa
