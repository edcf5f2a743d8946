/-
  The walk of message.May: one of a kind that tells events.
-/
import Derived.Test.YtnhjphmcdamoaaaMm
namespace Go.Proofs.Ytnhjphmcdamoaaa
set_option linter.unusedVariables false
set_option linter.unusedSimpArgs false
open Go.RowKit
set_option maxRecDepth 100000

theorem mmay_sync (m : Ms) (o : m.ok) (hE : endsB m = true) (k1 : (m.k == 1) = true) (k2 : (m.k == 2) = false) (k3 : (m.k != 1) = false) (A : Option Addr) (c : Nat) (w : World) (hL : ERows w w.heap.size A m.l) (hc : m.l.length ≤ c) (hm : c ≤ maxLen) : Calls Try.prog 59 #[.agg (mcA ⟨m.k, m.f, m.t, m.d, .slice A m.l.length c, m.n, m.a⟩)] w fun r w' => r = .returned (.bool (syncB m)) ∧ Below w.heap.size w w' := by
  have hends : regE m.f = true ∧ regE m.t = true ∧ (m.f == m.t) = false ∧ vmayB m.d = true := by
    unfold endsB at hE
    simp only [Bool.and_eq_true, decide_eq_true_eq] at hE
    exact ⟨hE.1.1.1, hE.1.1.2, by rw [beq_eq_false_iff_ne]; exact hE.1.2, hE.2⟩
  obtain ⟨h1, h2, h3, h4⟩ := hends
  clear hE
  have hcase : (syncB m = false ∧ m.l.all emayB = false) ∨ (syncB m = false ∧ m.l.all emayB = true ∧ 16 < m.l.length) ∨ (syncB m = false ∧ m.l.all emayB = true ∧ m.l.length ≤ 16 ∧ m.n ≠ 0) ∨ (syncB m = false ∧ m.l.all emayB = true ∧ m.l.length ≤ 16 ∧ m.n = 0 ∧ m.a ≠ 0) ∨ (syncB m = true ∧ m.l.all emayB = true ∧ m.l.length ≤ 16 ∧ m.n = 0 ∧ m.a = 0) := by
    unfold syncB
    cases a0 : m.l.all emayB
    · exact .inl ⟨rfl, rfl⟩
    · by_cases a1 : m.l.length ≤ 16
      · by_cases a2 : m.n = 0
        · by_cases a3 : m.a = 0
          · exact .inr (.inr (.inr (.inr ⟨by simp [a1, a2, a3], rfl, a1, a2, a3⟩)))
          · exact .inr (.inr (.inr (.inl ⟨by simp [a3], rfl, a1, a2, a3⟩)))
        · exact .inr (.inr (.inl ⟨by simp [a2], rfl, a1, a2⟩))
      · exact .inr (.inl ⟨by simp [a1], rfl, by omega⟩)
  have CE := Lib.hid fun (b : Bool) (h : m.l.all emayB = b) (W : World) (hW : Below w.heap.size w W) => contains_ev A c m.l b h W (hL.next hW) hc hm o.l
  clear o hL
  have hm1 : c ≤ 9223372036854775807 := hm
  rcases hcase with ⟨hR, a0⟩ | ⟨hR, a0, a1⟩ | ⟨hR, a0, a1, a2⟩ | ⟨hR, a0, a1, a2, a3⟩ | ⟨hR, a0, a1, a2, a3⟩
  · have HR := Lib.hid hR
    clear hR
    have C4 := Lib.hid (CE.out _ a0)
    clear CE a0
    have hl := hc
    generalize m.l.length = nl at *
    have C1 := Lib.hid (mregion_is m.f _ h1)
    have C2 := Lib.hid (mregion_is m.t _ h2)
    have C3 := Lib.hid (vmay' m.d _ h4)
    clear h1 h2 h4
    go_enter Try.func59, Try.ntmps59
    go_wp2_with (go_at_call 67; (first | (with_reducible refine (C1.out _).mono ?_) | (with_reducible refine (C2.out _).mono ?_)); rintro r w1 ⟨rfl, rfl⟩)
    have T0 : Trk w _ [(w.heap.size, 48, mcA ⟨m.k, m.f, m.t, m.d, .slice A nl c, m.n, m.a⟩)] := (Trk.nil w).push (t := 48) (cs := mcA ⟨m.k, m.f, m.t, m.d, .slice A nl c, m.n, m.a⟩) rfl
    refine (C3.out _).mono ?_
    rintro r w2 ⟨rfl, hb2⟩
    have T1 := T0.call hb2
    clear T0 hb2
    obtain ⟨q0, -, -⟩ := T1.rules
    obtain ⟨l0, -⟩ := T1.lts
    go_wp2_with fail
    refine (C4.out _ T1.below).mono ?_
    rintro r w3 ⟨rfl, hb3⟩
    have T2 := T1.call hb3
    clear T1 hb3 q0 l0
    obtain ⟨q0, -, -⟩ := T2.rules
    obtain ⟨l0, -⟩ := T2.lts
    go_wp2_with fail
    go_ret
    exact ⟨by rw [HR.out]; rfl, T2.below⟩
  · have HR := Lib.hid hR
    clear hR
    have C4 := Lib.hid (CE.out _ a0)
    clear CE a0
    have hl := hc
    generalize m.l.length = nl at *
    have a8 : ¬ (nl : Int) ≤ 16 := by omega
    have a9 : decide ((nl : Int) ≤ 16) = false := decide_eq_false a8
    have C1 := Lib.hid (mregion_is m.f _ h1)
    have C2 := Lib.hid (mregion_is m.t _ h2)
    have C3 := Lib.hid (vmay' m.d _ h4)
    clear h1 h2 h4
    go_enter Try.func59, Try.ntmps59
    go_wp2_with (go_at_call 67; (first | (with_reducible refine (C1.out _).mono ?_) | (with_reducible refine (C2.out _).mono ?_)); rintro r w1 ⟨rfl, rfl⟩)
    have T0 : Trk w _ [(w.heap.size, 48, mcA ⟨m.k, m.f, m.t, m.d, .slice A nl c, m.n, m.a⟩)] := (Trk.nil w).push (t := 48) (cs := mcA ⟨m.k, m.f, m.t, m.d, .slice A nl c, m.n, m.a⟩) rfl
    refine (C3.out _).mono ?_
    rintro r w2 ⟨rfl, hb2⟩
    have T1 := T0.call hb2
    clear T0 hb2
    obtain ⟨q0, -, -⟩ := T1.rules
    obtain ⟨l0, -⟩ := T1.lts
    go_wp2_with fail
    refine (C4.out _ T1.below).mono ?_
    rintro r w3 ⟨rfl, hb3⟩
    have T2 := T1.call hb3
    clear T1 hb3 q0 l0
    obtain ⟨q0, -, -⟩ := T2.rules
    obtain ⟨l0, -⟩ := T2.lts
    go_wp2_with fail
    go_ret
    exact ⟨by rw [HR.out]; rfl, T2.below⟩
  · have HR := Lib.hid hR
    clear hR
    have C4 := Lib.hid (CE.out _ a0)
    clear CE a0
    have hl := hc
    generalize m.l.length = nl at *
    have a6 : (m.n == 0) = false := by rw [beq_eq_false_iff_ne]; exact a2
    clear a2
    have a8 : (nl : Int) ≤ 16 := by omega
    have a9 : decide ((nl : Int) ≤ 16) = true := decide_eq_true a8
    have C1 := Lib.hid (mregion_is m.f _ h1)
    have C2 := Lib.hid (mregion_is m.t _ h2)
    have C3 := Lib.hid (vmay' m.d _ h4)
    clear h1 h2 h4
    go_enter Try.func59, Try.ntmps59
    go_wp2_with (go_at_call 67; (first | (with_reducible refine (C1.out _).mono ?_) | (with_reducible refine (C2.out _).mono ?_)); rintro r w1 ⟨rfl, rfl⟩)
    have T0 : Trk w _ [(w.heap.size, 48, mcA ⟨m.k, m.f, m.t, m.d, .slice A nl c, m.n, m.a⟩)] := (Trk.nil w).push (t := 48) (cs := mcA ⟨m.k, m.f, m.t, m.d, .slice A nl c, m.n, m.a⟩) rfl
    refine (C3.out _).mono ?_
    rintro r w2 ⟨rfl, hb2⟩
    have T1 := T0.call hb2
    clear T0 hb2
    obtain ⟨q0, -, -⟩ := T1.rules
    obtain ⟨l0, -⟩ := T1.lts
    go_wp2_with fail
    refine (C4.out _ T1.below).mono ?_
    rintro r w3 ⟨rfl, hb3⟩
    have T2 := T1.call hb3
    clear T1 hb3 q0 l0
    obtain ⟨q0, -, -⟩ := T2.rules
    obtain ⟨l0, -⟩ := T2.lts
    go_wp2_with fail
    go_ret
    exact ⟨by rw [HR.out]; rfl, T2.below⟩
  · have HR := Lib.hid hR
    clear hR
    have C4 := Lib.hid (CE.out _ a0)
    clear CE a0
    have hl := hc
    generalize m.l.length = nl at *
    have a6 : (m.n == 0) = true := by rw [a2]; rfl
    have a7 : (m.a == 0) = false := by rw [beq_eq_false_iff_ne]; exact a3
    clear a2 a3
    have a8 : (nl : Int) ≤ 16 := by omega
    have a9 : decide ((nl : Int) ≤ 16) = true := decide_eq_true a8
    have C1 := Lib.hid (mregion_is m.f _ h1)
    have C2 := Lib.hid (mregion_is m.t _ h2)
    have C3 := Lib.hid (vmay' m.d _ h4)
    clear h1 h2 h4
    go_enter Try.func59, Try.ntmps59
    go_wp2_with (go_at_call 67; (first | (with_reducible refine (C1.out _).mono ?_) | (with_reducible refine (C2.out _).mono ?_)); rintro r w1 ⟨rfl, rfl⟩)
    have T0 : Trk w _ [(w.heap.size, 48, mcA ⟨m.k, m.f, m.t, m.d, .slice A nl c, m.n, m.a⟩)] := (Trk.nil w).push (t := 48) (cs := mcA ⟨m.k, m.f, m.t, m.d, .slice A nl c, m.n, m.a⟩) rfl
    refine (C3.out _).mono ?_
    rintro r w2 ⟨rfl, hb2⟩
    have T1 := T0.call hb2
    clear T0 hb2
    obtain ⟨q0, -, -⟩ := T1.rules
    obtain ⟨l0, -⟩ := T1.lts
    go_wp2_with fail
    refine (C4.out _ T1.below).mono ?_
    rintro r w3 ⟨rfl, hb3⟩
    have T2 := T1.call hb3
    clear T1 hb3 q0 l0
    obtain ⟨q0, -, -⟩ := T2.rules
    obtain ⟨l0, -⟩ := T2.lts
    go_wp2_with fail
    go_ret
    exact ⟨by rw [HR.out]; rfl, T2.below⟩
  · have HR := Lib.hid hR
    clear hR
    have C4 := Lib.hid (CE.out _ a0)
    clear CE a0
    have hl := hc
    generalize m.l.length = nl at *
    have a6 : (m.n == 0) = true := by rw [a2]; rfl
    have a7 : (m.a == 0) = true := by rw [a3]; rfl
    clear a2 a3
    have a8 : (nl : Int) ≤ 16 := by omega
    have a9 : decide ((nl : Int) ≤ 16) = true := decide_eq_true a8
    have C1 := Lib.hid (mregion_is m.f _ h1)
    have C2 := Lib.hid (mregion_is m.t _ h2)
    have C3 := Lib.hid (vmay' m.d _ h4)
    clear h1 h2 h4
    go_enter Try.func59, Try.ntmps59
    go_wp2_with (go_at_call 67; (first | (with_reducible refine (C1.out _).mono ?_) | (with_reducible refine (C2.out _).mono ?_)); rintro r w1 ⟨rfl, rfl⟩)
    have T0 : Trk w _ [(w.heap.size, 48, mcA ⟨m.k, m.f, m.t, m.d, .slice A nl c, m.n, m.a⟩)] := (Trk.nil w).push (t := 48) (cs := mcA ⟨m.k, m.f, m.t, m.d, .slice A nl c, m.n, m.a⟩) rfl
    refine (C3.out _).mono ?_
    rintro r w2 ⟨rfl, hb2⟩
    have T1 := T0.call hb2
    clear T0 hb2
    obtain ⟨q0, -, -⟩ := T1.rules
    obtain ⟨l0, -⟩ := T1.lts
    go_wp2_with fail
    refine (C4.out _ T1.below).mono ?_
    rintro r w3 ⟨rfl, hb3⟩
    have T2 := T1.call hb3
    clear T1 hb3 q0 l0
    obtain ⟨q0, -, -⟩ := T2.rules
    obtain ⟨l0, -⟩ := T2.lts
    go_wp2_with fail
    go_ret
    exact ⟨by rw [HR.out]; rfl, T2.below⟩
end Go.Proofs.Ytnhjphmcdamoaaa
