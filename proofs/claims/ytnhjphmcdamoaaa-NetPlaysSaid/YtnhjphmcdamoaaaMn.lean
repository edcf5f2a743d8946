/-
  The walks of the Mays of messages: those of a kind that asks, or of no kind.
-/
import Derived.Test.YtnhjphmcdamoaaaMm
namespace Go.Proofs.Ytnhjphmcdamoaaa
set_option linter.unusedVariables false
set_option linter.unusedSimpArgs false
open Go.RowKit
set_option maxRecDepth 100000

theorem mmay_kind (m : Ms) (hE : endsB m = true) (k1 : (m.k == 1) = false) (k2 : (m.k == 2) = false) (A : Option Addr) (c : Nat) (w : World) : Calls Try.prog 59 #[.agg (mcA ⟨m.k, m.f, m.t, m.d, .slice A m.l.length c, m.n, m.a⟩)] w fun r w' => r = .returned (.bool false) ∧ Below w.heap.size w w' := by
  have hends : regE m.f = true ∧ regE m.t = true ∧ (m.f == m.t) = false ∧ vmayB m.d = true := by
    unfold endsB at hE
    simp only [Bool.and_eq_true, decide_eq_true_eq] at hE
    exact ⟨hE.1.1.1, hE.1.1.2, by rw [beq_eq_false_iff_ne]; exact hE.1.2, hE.2⟩
  obtain ⟨h1, h2, h3, h4⟩ := hends
  clear hE
  · have C1 := Lib.hid (mregion_is m.f _ h1)
    have C2 := Lib.hid (mregion_is m.t _ h2)
    have C3 := Lib.hid (vmay' m.d _ h4)
    clear h1 h2 h4
    go_enter Try.func59, Try.ntmps59
    go_wp2_with (go_at_call 67; (first | (with_reducible refine (C1.out _).mono ?_) | (with_reducible refine (C2.out _).mono ?_)); rintro r w1 ⟨rfl, rfl⟩)
    have T0 : Trk w _ [(w.heap.size, 48, mcA ⟨m.k, m.f, m.t, m.d, .slice A m.l.length c, m.n, m.a⟩)] := (Trk.nil w).push (t := 48) (cs := mcA ⟨m.k, m.f, m.t, m.d, .slice A m.l.length c, m.n, m.a⟩) rfl
    refine (C3.out _).mono ?_
    rintro r w2 ⟨rfl, hb2⟩
    have T1 := T0.call hb2
    clear T0 hb2
    obtain ⟨q0, -, -⟩ := T1.rules
    obtain ⟨l0, -⟩ := T1.lts
    go_wp2_with fail
    go_ret
    exact ⟨rfl, T1.below⟩
theorem mmay_ask (m : Ms) (o : m.ok) (hE : endsB m = true) (k1 : (m.k == 1) = false) (k2 : (m.k == 2) = true) (A : Option Addr) (c : Nat) (w : World) : Calls Try.prog 59 #[.agg (mcA ⟨m.k, m.f, m.t, m.d, .slice A m.l.length c, m.n, m.a⟩)] w fun r w' => r = .returned (.bool (askB m)) ∧ Below w.heap.size w w' := by
  have hends : regE m.f = true ∧ regE m.t = true ∧ (m.f == m.t) = false ∧ vmayB m.d = true := by
    unfold endsB at hE
    simp only [Bool.and_eq_true, decide_eq_true_eq] at hE
    exact ⟨hE.1.1.1, hE.1.1.2, by rw [beq_eq_false_iff_ne]; exact hE.1.2, hE.2⟩
  obtain ⟨h1, h2, h3, h4⟩ := hends
  clear hE
  have oa := o.a
  have hcase : (askB m = false ∧ m.l.length ≠ 0) ∨ (askB m = false ∧ m.l.length = 0 ∧ m.n = 0) ∨ (askB m = false ∧ m.l.length = 0 ∧ m.n ≠ 0 ∧ m.a < 1) ∨ (askB m = false ∧ m.l.length = 0 ∧ m.n ≠ 0 ∧ 1 ≤ m.a ∧ ¬ m.a ≤ 1125899906842624) ∨ (askB m = true ∧ m.l.length = 0 ∧ m.n ≠ 0 ∧ 1 ≤ m.a ∧ m.a ≤ 1125899906842624) := by
    unfold askB
    by_cases a1 : m.l.length = 0
    · by_cases a2 : m.n = 0
      · exact .inr (.inl ⟨by simp [a2], a1, a2⟩)
      · by_cases a3 : 1 ≤ m.a
        · by_cases a4 : m.a ≤ 1125899906842624
          · exact .inr (.inr (.inr (.inr ⟨by simp [a1, a2, a3, a4], a1, a2, a3, a4⟩)))
          · exact .inr (.inr (.inr (.inl ⟨by simp [a4], a1, a2, a3, a4⟩)))
        · exact .inr (.inr (.inl ⟨by simp [a3], a1, a2, by omega⟩))
    · exact .inl ⟨by simp; intro h; rw [h] at a1; exact absurd rfl a1, a1⟩
  clear o
  generalize m.l.length = nl at hcase ⊢
  rcases hcase with ⟨hR, a1⟩ | ⟨hR, rfl, a2⟩ | ⟨hR, rfl, a2, a3⟩ | ⟨hR, rfl, a2, a3, a4⟩ | ⟨hR, rfl, a2, a3, a4⟩
  · have HR := Lib.hid hR
    clear hR
    have a5 : ((nl : Int) == 0) = false := by rw [beq_eq_false_iff_ne]; omega
    have C1 := Lib.hid (mregion_is m.f _ h1)
    have C2 := Lib.hid (mregion_is m.t _ h2)
    have C3 := Lib.hid (vmay' m.d _ h4)
    clear h1 h2 h4
    go_enter Try.func59, Try.ntmps59
    go_wp2_with (go_at_call 67; (first | (with_reducible refine (C1.out _).mono ?_) | (with_reducible refine (C2.out _).mono ?_)); rintro r w1 ⟨rfl, rfl⟩)
    have T0 : Trk w _ [(w.heap.size, 48, mcA ⟨m.k, m.f, m.t, m.d, .slice A nl c, m.n, m.a⟩)] := (Trk.nil w).push (t := 48) (cs := mcA ⟨m.k, m.f, m.t, m.d, .slice A nl c, m.n, m.a⟩) rfl
    refine (C3.out _).mono ?_
    rintro r w2 ⟨rfl, hb2⟩
    have T1 := T0.call hb2
    clear T0 hb2
    obtain ⟨q0, -, -⟩ := T1.rules
    obtain ⟨l0, -⟩ := T1.lts
    go_wp2_with fail
    go_ret
    exact ⟨by rw [HR.out]; rfl, T1.below⟩
  · have HR := Lib.hid hR
    clear hR
    have a6 : (m.n == 0) = true := by rw [a2]; rfl
    have a7 : (m.n != 0) = false := by rw [a2]; rfl
    clear a2
    have C1 := Lib.hid (mregion_is m.f _ h1)
    have C2 := Lib.hid (mregion_is m.t _ h2)
    have C3 := Lib.hid (vmay' m.d _ h4)
    clear h1 h2 h4
    go_enter Try.func59, Try.ntmps59
    go_wp2_with (go_at_call 67; (first | (with_reducible refine (C1.out _).mono ?_) | (with_reducible refine (C2.out _).mono ?_)); rintro r w1 ⟨rfl, rfl⟩)
    have T0 : Trk w _ [(w.heap.size, 48, mcA ⟨m.k, m.f, m.t, m.d, .slice A 0 c, m.n, m.a⟩)] := (Trk.nil w).push (t := 48) (cs := mcA ⟨m.k, m.f, m.t, m.d, .slice A 0 c, m.n, m.a⟩) rfl
    refine (C3.out _).mono ?_
    rintro r w2 ⟨rfl, hb2⟩
    have T1 := T0.call hb2
    clear T0 hb2
    obtain ⟨q0, -, -⟩ := T1.rules
    obtain ⟨l0, -⟩ := T1.lts
    go_wp2_with fail
    go_ret
    exact ⟨by rw [HR.out]; rfl, T1.below⟩
  · have HR := Lib.hid hR
    clear hR
    have a6 : (m.n == 0) = false := by rw [beq_eq_false_iff_ne]; exact a2
    have a7 : (m.n != 0) = true := by rw [bne, a6]; rfl
    have C1 := Lib.hid (mregion_is m.f _ h1)
    have C2 := Lib.hid (mregion_is m.t _ h2)
    have C3 := Lib.hid (vmay' m.d _ h4)
    clear h1 h2 h4
    go_enter Try.func59, Try.ntmps59
    go_wp2_with (go_at_call 67; (first | (with_reducible refine (C1.out _).mono ?_) | (with_reducible refine (C2.out _).mono ?_)); rintro r w1 ⟨rfl, rfl⟩)
    have T0 : Trk w _ [(w.heap.size, 48, mcA ⟨m.k, m.f, m.t, m.d, .slice A 0 c, m.n, m.a⟩)] := (Trk.nil w).push (t := 48) (cs := mcA ⟨m.k, m.f, m.t, m.d, .slice A 0 c, m.n, m.a⟩) rfl
    refine (C3.out _).mono ?_
    rintro r w2 ⟨rfl, hb2⟩
    have T1 := T0.call hb2
    clear T0 hb2
    obtain ⟨q0, -, -⟩ := T1.rules
    obtain ⟨l0, -⟩ := T1.lts
    go_wp2_with fail
    go_ret
    exact ⟨by rw [HR.out]; rfl, T1.below⟩
  · have HR := Lib.hid hR
    clear hR
    have a6 : (m.n == 0) = false := by rw [beq_eq_false_iff_ne]; exact a2
    have a7 : (m.n != 0) = true := by rw [bne, a6]; rfl
    have a9 : decide (m.a ≤ 1125899906842624) = false := decide_eq_false a4
    clear a4
    have C1 := Lib.hid (mregion_is m.f _ h1)
    have C2 := Lib.hid (mregion_is m.t _ h2)
    have C3 := Lib.hid (vmay' m.d _ h4)
    clear h1 h2 h4
    go_enter Try.func59, Try.ntmps59
    go_wp2_with (go_at_call 67; (first | (with_reducible refine (C1.out _).mono ?_) | (with_reducible refine (C2.out _).mono ?_)); rintro r w1 ⟨rfl, rfl⟩)
    have T0 : Trk w _ [(w.heap.size, 48, mcA ⟨m.k, m.f, m.t, m.d, .slice A 0 c, m.n, m.a⟩)] := (Trk.nil w).push (t := 48) (cs := mcA ⟨m.k, m.f, m.t, m.d, .slice A 0 c, m.n, m.a⟩) rfl
    refine (C3.out _).mono ?_
    rintro r w2 ⟨rfl, hb2⟩
    have T1 := T0.call hb2
    clear T0 hb2
    obtain ⟨q0, -, -⟩ := T1.rules
    obtain ⟨l0, -⟩ := T1.lts
    go_wp2_with fail
    go_ret
    exact ⟨by rw [HR.out]; rfl, T1.below⟩
  · have HR := Lib.hid hR
    clear hR
    have a6 : (m.n == 0) = false := by rw [beq_eq_false_iff_ne]; exact a2
    have a7 : (m.n != 0) = true := by rw [bne, a6]; rfl
    have C1 := Lib.hid (mregion_is m.f _ h1)
    have C2 := Lib.hid (mregion_is m.t _ h2)
    have C3 := Lib.hid (vmay' m.d _ h4)
    clear h1 h2 h4
    go_enter Try.func59, Try.ntmps59
    go_wp2_with (go_at_call 67; (first | (with_reducible refine (C1.out _).mono ?_) | (with_reducible refine (C2.out _).mono ?_)); rintro r w1 ⟨rfl, rfl⟩)
    have T0 : Trk w _ [(w.heap.size, 48, mcA ⟨m.k, m.f, m.t, m.d, .slice A 0 c, m.n, m.a⟩)] := (Trk.nil w).push (t := 48) (cs := mcA ⟨m.k, m.f, m.t, m.d, .slice A 0 c, m.n, m.a⟩) rfl
    refine (C3.out _).mono ?_
    rintro r w2 ⟨rfl, hb2⟩
    have T1 := T0.call hb2
    clear T0 hb2
    obtain ⟨q0, -, -⟩ := T1.rules
    obtain ⟨l0, -⟩ := T1.lts
    go_wp2_with fail
    go_ret
    exact ⟨by rw [HR.out]; rfl, T1.below⟩
theorem rmay20_kind (m : Ms) (hE : endsB m = true) (k1 : (m.k == 1) = false) (k2 : (m.k == 2) = false) (k3 : (m.k != 1) = true) (A : Option Addr) (c : Nat) (w : World) : Calls Try.prog 64 #[.agg (mcA ⟨m.k, m.f, m.t, m.d, .slice A m.l.length c, m.n, m.a⟩)] w fun r w' => r = .returned (.bool false) ∧ Below w.heap.size w w' := by
  have hends : regE m.f = true ∧ regE m.t = true ∧ (m.f == m.t) = false ∧ vmayB m.d = true := by
    unfold endsB at hE
    simp only [Bool.and_eq_true, decide_eq_true_eq] at hE
    exact ⟨hE.1.1.1, hE.1.1.2, by rw [beq_eq_false_iff_ne]; exact hE.1.2, hE.2⟩
  obtain ⟨h1, h2, h3, h4⟩ := hends
  clear hE
  · have C1 := Lib.hid (rregion20_is m.f _ h1)
    have C2 := Lib.hid (rregion20_is m.t _ h2)
    have C3 := Lib.hid (rmay m.d _ h4)
    clear h1 h2 h4
    go_enter Try.func64, Try.ntmps64
    go_wp2_with (go_at_call 72; (first | (with_reducible refine (C1.out _).mono ?_) | (with_reducible refine (C2.out _).mono ?_)); rintro r w1 ⟨rfl, rfl⟩)
    have T0 : Trk w _ [(w.heap.size, 48, mcA ⟨m.k, m.f, m.t, m.d, .slice A m.l.length c, m.n, m.a⟩)] := (Trk.nil w).push (t := 48) (cs := mcA ⟨m.k, m.f, m.t, m.d, .slice A m.l.length c, m.n, m.a⟩) rfl
    refine (C3.out _).mono ?_
    rintro r w2 ⟨rfl, hb2⟩
    have T1 := T0.call hb2
    clear T0 hb2
    obtain ⟨q0, -, -⟩ := T1.rules
    obtain ⟨l0, -⟩ := T1.lts
    go_wp2_with fail
    go_ret
    exact ⟨rfl, T1.below⟩
theorem rmay20_ask (m : Ms) (o : m.ok) (hE : endsB m = true) (k1 : (m.k == 1) = false) (k2 : (m.k == 2) = true) (A : Option Addr) (c : Nat) (w : World) : Calls Try.prog 64 #[.agg (mcA ⟨m.k, m.f, m.t, m.d, .slice A m.l.length c, m.n, m.a⟩)] w fun r w' => r = .returned (.bool (askB m)) ∧ Below w.heap.size w w' := by
  have hends : regE m.f = true ∧ regE m.t = true ∧ (m.f == m.t) = false ∧ vmayB m.d = true := by
    unfold endsB at hE
    simp only [Bool.and_eq_true, decide_eq_true_eq] at hE
    exact ⟨hE.1.1.1, hE.1.1.2, by rw [beq_eq_false_iff_ne]; exact hE.1.2, hE.2⟩
  obtain ⟨h1, h2, h3, h4⟩ := hends
  clear hE
  have oa := o.a
  have hcase : (askB m = false ∧ m.l.length ≠ 0) ∨ (askB m = false ∧ m.l.length = 0 ∧ m.n = 0) ∨ (askB m = false ∧ m.l.length = 0 ∧ m.n ≠ 0 ∧ m.a < 1) ∨ (askB m = false ∧ m.l.length = 0 ∧ m.n ≠ 0 ∧ 1 ≤ m.a ∧ ¬ m.a ≤ 1125899906842624) ∨ (askB m = true ∧ m.l.length = 0 ∧ m.n ≠ 0 ∧ 1 ≤ m.a ∧ m.a ≤ 1125899906842624) := by
    unfold askB
    by_cases a1 : m.l.length = 0
    · by_cases a2 : m.n = 0
      · exact .inr (.inl ⟨by simp [a2], a1, a2⟩)
      · by_cases a3 : 1 ≤ m.a
        · by_cases a4 : m.a ≤ 1125899906842624
          · exact .inr (.inr (.inr (.inr ⟨by simp [a1, a2, a3, a4], a1, a2, a3, a4⟩)))
          · exact .inr (.inr (.inr (.inl ⟨by simp [a4], a1, a2, a3, a4⟩)))
        · exact .inr (.inr (.inl ⟨by simp [a3], a1, a2, by omega⟩))
    · exact .inl ⟨by simp; intro h; rw [h] at a1; exact absurd rfl a1, a1⟩
  clear o
  generalize m.l.length = nl at hcase ⊢
  rcases hcase with ⟨hR, a1⟩ | ⟨hR, rfl, a2⟩ | ⟨hR, rfl, a2, a3⟩ | ⟨hR, rfl, a2, a3, a4⟩ | ⟨hR, rfl, a2, a3, a4⟩
  · have HR := Lib.hid hR
    clear hR
    have a5 : ((nl : Int) == 0) = false := by rw [beq_eq_false_iff_ne]; omega
    have C1 := Lib.hid (rregion20_is m.f _ h1)
    have C2 := Lib.hid (rregion20_is m.t _ h2)
    have C3 := Lib.hid (rmay m.d _ h4)
    clear h1 h2 h4
    go_enter Try.func64, Try.ntmps64
    go_wp2_with (go_at_call 72; (first | (with_reducible refine (C1.out _).mono ?_) | (with_reducible refine (C2.out _).mono ?_)); rintro r w1 ⟨rfl, rfl⟩)
    have T0 : Trk w _ [(w.heap.size, 48, mcA ⟨m.k, m.f, m.t, m.d, .slice A nl c, m.n, m.a⟩)] := (Trk.nil w).push (t := 48) (cs := mcA ⟨m.k, m.f, m.t, m.d, .slice A nl c, m.n, m.a⟩) rfl
    refine (C3.out _).mono ?_
    rintro r w2 ⟨rfl, hb2⟩
    have T1 := T0.call hb2
    clear T0 hb2
    obtain ⟨q0, -, -⟩ := T1.rules
    obtain ⟨l0, -⟩ := T1.lts
    go_wp2_with fail
    go_ret
    exact ⟨by rw [HR.out]; rfl, T1.below⟩
  · have HR := Lib.hid hR
    clear hR
    have a6 : (m.n == 0) = true := by rw [a2]; rfl
    have a7 : (m.n != 0) = false := by rw [a2]; rfl
    clear a2
    have C1 := Lib.hid (rregion20_is m.f _ h1)
    have C2 := Lib.hid (rregion20_is m.t _ h2)
    have C3 := Lib.hid (rmay m.d _ h4)
    clear h1 h2 h4
    go_enter Try.func64, Try.ntmps64
    go_wp2_with (go_at_call 72; (first | (with_reducible refine (C1.out _).mono ?_) | (with_reducible refine (C2.out _).mono ?_)); rintro r w1 ⟨rfl, rfl⟩)
    have T0 : Trk w _ [(w.heap.size, 48, mcA ⟨m.k, m.f, m.t, m.d, .slice A 0 c, m.n, m.a⟩)] := (Trk.nil w).push (t := 48) (cs := mcA ⟨m.k, m.f, m.t, m.d, .slice A 0 c, m.n, m.a⟩) rfl
    refine (C3.out _).mono ?_
    rintro r w2 ⟨rfl, hb2⟩
    have T1 := T0.call hb2
    clear T0 hb2
    obtain ⟨q0, -, -⟩ := T1.rules
    obtain ⟨l0, -⟩ := T1.lts
    go_wp2_with fail
    go_ret
    exact ⟨by rw [HR.out]; rfl, T1.below⟩
  · have HR := Lib.hid hR
    clear hR
    have a6 : (m.n == 0) = false := by rw [beq_eq_false_iff_ne]; exact a2
    have a7 : (m.n != 0) = true := by rw [bne, a6]; rfl
    have C1 := Lib.hid (rregion20_is m.f _ h1)
    have C2 := Lib.hid (rregion20_is m.t _ h2)
    have C3 := Lib.hid (rmay m.d _ h4)
    clear h1 h2 h4
    go_enter Try.func64, Try.ntmps64
    go_wp2_with (go_at_call 72; (first | (with_reducible refine (C1.out _).mono ?_) | (with_reducible refine (C2.out _).mono ?_)); rintro r w1 ⟨rfl, rfl⟩)
    have T0 : Trk w _ [(w.heap.size, 48, mcA ⟨m.k, m.f, m.t, m.d, .slice A 0 c, m.n, m.a⟩)] := (Trk.nil w).push (t := 48) (cs := mcA ⟨m.k, m.f, m.t, m.d, .slice A 0 c, m.n, m.a⟩) rfl
    refine (C3.out _).mono ?_
    rintro r w2 ⟨rfl, hb2⟩
    have T1 := T0.call hb2
    clear T0 hb2
    obtain ⟨q0, -, -⟩ := T1.rules
    obtain ⟨l0, -⟩ := T1.lts
    go_wp2_with fail
    go_ret
    exact ⟨by rw [HR.out]; rfl, T1.below⟩
  · have HR := Lib.hid hR
    clear hR
    have a6 : (m.n == 0) = false := by rw [beq_eq_false_iff_ne]; exact a2
    have a7 : (m.n != 0) = true := by rw [bne, a6]; rfl
    have a9 : decide (m.a ≤ 1125899906842624) = false := decide_eq_false a4
    clear a4
    have C1 := Lib.hid (rregion20_is m.f _ h1)
    have C2 := Lib.hid (rregion20_is m.t _ h2)
    have C3 := Lib.hid (rmay m.d _ h4)
    clear h1 h2 h4
    go_enter Try.func64, Try.ntmps64
    go_wp2_with (go_at_call 72; (first | (with_reducible refine (C1.out _).mono ?_) | (with_reducible refine (C2.out _).mono ?_)); rintro r w1 ⟨rfl, rfl⟩)
    have T0 : Trk w _ [(w.heap.size, 48, mcA ⟨m.k, m.f, m.t, m.d, .slice A 0 c, m.n, m.a⟩)] := (Trk.nil w).push (t := 48) (cs := mcA ⟨m.k, m.f, m.t, m.d, .slice A 0 c, m.n, m.a⟩) rfl
    refine (C3.out _).mono ?_
    rintro r w2 ⟨rfl, hb2⟩
    have T1 := T0.call hb2
    clear T0 hb2
    obtain ⟨q0, -, -⟩ := T1.rules
    obtain ⟨l0, -⟩ := T1.lts
    go_wp2_with fail
    go_ret
    exact ⟨by rw [HR.out]; rfl, T1.below⟩
  · have HR := Lib.hid hR
    clear hR
    have a6 : (m.n == 0) = false := by rw [beq_eq_false_iff_ne]; exact a2
    have a7 : (m.n != 0) = true := by rw [bne, a6]; rfl
    have C1 := Lib.hid (rregion20_is m.f _ h1)
    have C2 := Lib.hid (rregion20_is m.t _ h2)
    have C3 := Lib.hid (rmay m.d _ h4)
    clear h1 h2 h4
    go_enter Try.func64, Try.ntmps64
    go_wp2_with (go_at_call 72; (first | (with_reducible refine (C1.out _).mono ?_) | (with_reducible refine (C2.out _).mono ?_)); rintro r w1 ⟨rfl, rfl⟩)
    have T0 : Trk w _ [(w.heap.size, 48, mcA ⟨m.k, m.f, m.t, m.d, .slice A 0 c, m.n, m.a⟩)] := (Trk.nil w).push (t := 48) (cs := mcA ⟨m.k, m.f, m.t, m.d, .slice A 0 c, m.n, m.a⟩) rfl
    refine (C3.out _).mono ?_
    rintro r w2 ⟨rfl, hb2⟩
    have T1 := T0.call hb2
    clear T0 hb2
    obtain ⟨q0, -, -⟩ := T1.rules
    obtain ⟨l0, -⟩ := T1.lts
    go_wp2_with fail
    go_ret
    exact ⟨by rw [HR.out]; rfl, T1.below⟩
end Go.Proofs.Ytnhjphmcdamoaaa
