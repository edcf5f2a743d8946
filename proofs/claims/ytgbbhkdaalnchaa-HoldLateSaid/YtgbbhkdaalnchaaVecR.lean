/-
  The walks of the document's package leatref06: Region, Has, Next, With, May, Less, Lack, Join, Meet, All, Least.
-/
import Derived.Test.YtgbbhkdaalnchaaGD
import Derived.StillTailTactics
namespace Go.Proofs.Ytgbbhkdaalnchaa
set_option linter.unusedVariables false
set_option linter.unusedSimpArgs false
open Go.RowKit

theorem rregion_any (k : Int) (w : World) :
    Calls Try.prog 54 #[.int .i64 k] w fun e w' => e = .returned (.bool (regB k)) ∧ w = w' := by
  go_enter Try.func54, Try.ntmps54
  go_wp2
  all_goals go_ret
  all_goals (refine ⟨?_, rfl⟩; simp [regB]; omega)
theorem rregion_yes (k : Nat) (h : k < 6) (w : World) :
    Calls Try.prog 54 #[.int .i64 (k + 1)] w fun e w' => e = .returned (.bool true) ∧ w = w' :=
  (rregion_any (k + 1) w).mono fun _ _ ⟨h1, h2⟩ => ⟨by rw [h1, regB_yes k h], h2⟩
theorem rregion_no (o : Int) (h : regB o = false) (w : World) :
    Calls Try.prog 54 #[.int .i64 o] w fun e w' => e = .returned (.bool false) ∧ w = w' :=
  (rregion_any o w).mono fun _ _ ⟨h1, h2⟩ => ⟨by rw [h1, h], h2⟩
theorem rhas (v : Vec) (o s : Int) (w : World) :
    Calls Try.prog 33 #[.agg (vecA v), .int .i64 o, .int .u64 s] w fun e w' => e = .returned (.bool (vhasB v o s)) ∧ Below w.heap.size w w' := by
  by_cases hr : regB o = true
  · obtain ⟨k, hk, rfl⟩ := regB_out hr
    have e1 : ((k : Int) + 1 - 1).toNat = k := by omega
    have hg := vecA_get v k hk
    by_cases hs : 0 < s
    · have hf : vhasB v (k + 1) s = decide (s ≤ v.get k) := by unfold vhasB; rw [hr, e1, decide_eq_true hs]; rfl
      have HF := Lib.hid hf
      clear hf hr e1
      go_enter Try.func33, Try.ntmps33
      go_wp2_with (go_at_call 54; refine (rregion_yes k hk _).mono ?_; rintro e w' ⟨rfl, rfl⟩)
      go_ret
      refine ⟨by rw [HF.out]; rfl, ?_⟩
      go_grown
    · have hf : vhasB v (k + 1) s = false := by unfold vhasB; rw [hr, decide_eq_false hs]; rfl
      have HF := Lib.hid hf
      clear hf hr e1
      go_enter Try.func33, Try.ntmps33
      go_wp2_with (go_at_call 54; refine (rregion_yes k hk _).mono ?_; rintro e w' ⟨rfl, rfl⟩)
      go_ret
      refine ⟨by rw [HF.out]; rfl, ?_⟩
      go_grown
  · have hr' : regB o = false := by simpa using hr
    have hf : vhasB v o s = false := by unfold vhasB; rw [hr']; rfl
    have HF := Lib.hid hf
    have HR := Lib.hid hr'
    clear hf hr hr'
    go_enter Try.func33, Try.ntmps33
    go_wp2_with (go_at_call 54; refine (rregion_no o HR.out _).mono ?_; rintro e w' ⟨rfl, rfl⟩)
    go_ret
    refine ⟨by rw [HF.out]; rfl, ?_⟩
    go_grown

theorem rnext_any (v : Vec) (hv : v.ok) (o : Int) (w : World) :
    Calls Try.prog 26 #[.agg (vecA v), .int .i64 o] w fun e w' => e = .returned (.tuple #[.int .u64 (vnext v o).1, .int .i64 (vnext v o).2]) ∧ Below w.heap.size w w' := by
  by_cases hr : regB o = true
  · obtain ⟨k, hk, rfl⟩ := regB_out hr
    have e1 : ((k : Int) + 1 - 1).toNat = k := by omega
    have hg := vecA_get v k hk
    obtain ⟨b0, b1⟩ := hv k hk
    by_cases hs : 1099511627776 ≤ v.get k
    · have hf : vnext v (k + 1) = (0, 6) := by unfold vnext; rw [if_pos hr, e1, if_pos hs]
      have HF := Lib.hid hf
      clear hf hr e1
      go_enter Try.func26, Try.ntmps26
      go_wp2_with (go_at_call 54; refine (rregion_yes k hk _).mono ?_; rintro e w' ⟨rfl, rfl⟩)
      go_ret2
      refine ⟨by rw [HF.out]; rfl, ?_⟩
      go_grown
    · have hf : vnext v (k + 1) = (v.get k + 1, 0) := by unfold vnext; rw [if_pos hr, e1, if_neg hs]
      have HF := Lib.hid hf
      clear hf hr e1
      go_enter Try.func26, Try.ntmps26
      go_wp2_with (go_at_call 54; refine (rregion_yes k hk _).mono ?_; rintro e w' ⟨rfl, rfl⟩)
      go_ret2
      refine ⟨by rw [HF.out]; simp, ?_⟩
      go_grown
  · have hr' : regB o = false := by simpa using hr
    have hf : vnext v o = (0, 10) := by unfold vnext; rw [if_neg hr]
    have HF := Lib.hid hf
    have HR := Lib.hid hr'
    clear hf hr hr'
    go_enter Try.func26, Try.ntmps26
    go_wp2_with (go_at_call 54; refine (rregion_no o HR.out _).mono ?_; rintro e w' ⟨rfl, rfl⟩)
    go_ret2
    refine ⟨by rw [HF.out]; rfl, ?_⟩
    go_grown

theorem rwith_any (v : Vec) (o s : Int) (w : World) :
    Calls Try.prog 28 #[.agg (vecA v), .int .i64 o, .int .u64 s] w fun e w' => e = .returned (.tuple #[.agg (vecA (vwith v o s).1), .int .i64 (vwith v o s).2]) ∧ Below w.heap.size w w' := by
  by_cases hr : regB o = true
  · obtain ⟨k, hk, rfl⟩ := regB_out hr
    have e1 : ((k : Int) + 1 - 1).toNat = k := by omega
    have hst := vecA_set v k s hk
    have hg := vecA_get v k hk
    by_cases hs : 1099511627776 < s
    · have hf : vwith v (k + 1) s = (Vec.zero, 1) := by unfold vwith; rw [if_pos hr, if_pos hs]
      have HF := Lib.hid hf
      clear hf hr e1
      go_enter Try.func28, Try.ntmps28
      go_wp2_with (go_at_call 54; refine (rregion_yes k hk _).mono ?_; rintro e w' ⟨rfl, rfl⟩)
      go_returns
      refine ⟨by rw [HF.out], ?_⟩
      go_grown
    · have hf : vwith v (k + 1) s = (v.set k s, 0) := by unfold vwith; rw [if_pos hr, e1, if_neg hs]
      have HF := Lib.hid hf
      clear hf hr e1
      go_enter Try.func28, Try.ntmps28
      go_wp2_with (go_at_call 54; refine (rregion_yes k hk _).mono ?_; rintro e w' ⟨rfl, rfl⟩)
      go_returns
      refine ⟨by rw [HF.out], ?_⟩
      go_grown
  · have hr' : regB o = false := by simpa using hr
    have hf : vwith v o s = (Vec.zero, 10) := by unfold vwith; rw [if_neg hr]
    have HF := Lib.hid hf
    have HR := Lib.hid hr'
    clear hf hr hr'
    go_enter Try.func28, Try.ntmps28
    go_wp2_with (go_at_call 54; refine (rregion_no o HR.out _).mono ?_; rintro e w' ⟨rfl, rfl⟩)
    go_returns
    refine ⟨by rw [HF.out], ?_⟩
    go_grown


end Go.Proofs.Ytgbbhkdaalnchaa
