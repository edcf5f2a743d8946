/-
  The walk of the document's leatref20.Same: the same messages?
-/
import Derived.Test.YtnhjphmcdamoaaaMw
import Derived.Test.YtnhjphmcdamoaaaSm08
import Derived.Test.YtnhjphmcdamoaaaMm
namespace Go.Proofs.Ytnhjphmcdamoaaa
set_option linter.unusedVariables false
set_option linter.unusedSimpArgs false
open Go.RowKit
set_option maxRecDepth 100000

theorem rsame20 (x y : Ms) (A1 A2 : Option Addr) (c1 c2 : Nat) (w : World) (h1 : ERows w w.heap.size A1 x.l) (h2 : ERows w w.heap.size A2 y.l) (hc1 : x.l.length ≤ c1) (hm1 : c1 ≤ maxLen) (hc2 : y.l.length ≤ c2) (hm2 : c2 ≤ maxLen) :
    Calls Try.prog 43 #[.agg (mcA ⟨x.k, x.f, x.t, x.d, .slice A1 x.l.length c1, x.n, x.a⟩), .agg (mcA ⟨y.k, y.f, y.t, y.d, .slice A2 y.l.length c2, y.n, y.a⟩)] w fun r w' => r = .returned (.bool (decide (x = y))) ∧ Below w.heap.size w w' := by
  have hcase : (decide (x = y) = false ∧ x.k ≠ y.k) ∨ (decide (x = y) = false ∧ x.k = y.k ∧ x.f ≠ y.f) ∨ (decide (x = y) = false ∧ x.k = y.k ∧ x.f = y.f ∧ x.t ≠ y.t) ∨ (decide (x = y) = false ∧ x.k = y.k ∧ x.f = y.f ∧ x.t = y.t ∧ x.d ≠ y.d)
      ∨ (decide (x = y) = false ∧ x.k = y.k ∧ x.f = y.f ∧ x.t = y.t ∧ x.d = y.d ∧ x.l ≠ y.l) ∨ (decide (x = y) = false ∧ x.k = y.k ∧ x.f = y.f ∧ x.t = y.t ∧ x.d = y.d ∧ x.l = y.l ∧ x.n ≠ y.n) ∨ (decide (x = y) = false ∧ x.k = y.k ∧ x.f = y.f ∧ x.t = y.t ∧ x.d = y.d ∧ x.l = y.l ∧ x.n = y.n ∧ x.a ≠ y.a)
      ∨ (decide (x = y) = true ∧ x.k = y.k ∧ x.f = y.f ∧ x.t = y.t ∧ x.d = y.d ∧ x.l = y.l ∧ x.n = y.n ∧ x.a = y.a) := by
    by_cases e0 : x.k = y.k
    · by_cases e1 : x.f = y.f
      · by_cases e2 : x.t = y.t
        · by_cases e3 : x.d = y.d
          · by_cases e4 : x.l = y.l
            · by_cases e5 : x.n = y.n
              · by_cases e6 : x.a = y.a
                · exact .inr (.inr (.inr (.inr (.inr (.inr (.inr ⟨decide_eq_true (Ms.ext e0 e1 e2 e3 e4 e5 e6), e0, e1, e2, e3, e4, e5, e6⟩))))))
                · exact .inr (.inr (.inr (.inr (.inr (.inr (.inl ⟨decide_eq_false (fun h => e6 (by rw [h])), e0, e1, e2, e3, e4, e5, e6⟩))))))
              · exact .inr (.inr (.inr (.inr (.inr (.inl ⟨decide_eq_false (fun h => e5 (by rw [h])), e0, e1, e2, e3, e4, e5⟩)))))
            · exact .inr (.inr (.inr (.inr (.inl ⟨decide_eq_false (fun h => e4 (by rw [h])), e0, e1, e2, e3, e4⟩))))
          · exact .inr (.inr (.inr (.inl ⟨decide_eq_false (fun h => e3 (by rw [h])), e0, e1, e2, e3⟩)))
        · exact .inr (.inr (.inl ⟨decide_eq_false (fun h => e2 (by rw [h])), e0, e1, e2⟩))
      · exact .inr (.inl ⟨decide_eq_false (fun h => e1 (by rw [h])), e0, e1⟩)
    · exact .inl ⟨decide_eq_false (fun h => e0 (by rw [h])), e0⟩
  have CS := Lib.hid fun (W : World) (hW : Below w.heap.size w W) => rsame08 A1 A2 c1 c2 W.heap.size x.l y.l W (h1.next hW) (h2.next hW) (Nat.le_refl _) hc1 hm1 hc2 hm2
  clear h1 h2
  rcases hcase with ⟨hR, e0⟩ | ⟨hR, e0, e1⟩ | ⟨hR, e0, e1, e2⟩ | ⟨hR, e0, e1, e2, e3⟩ | ⟨hR, e0, e1, e2, e3, e4⟩ | ⟨hR, e0, e1, e2, e3, e4, e5⟩ | ⟨hR, e0, e1, e2, e3, e4, e5, e6⟩ | ⟨hR, e0, e1, e2, e3, e4, e5, e6⟩
  · have HR := Lib.hid hR
    clear hR
    have b0 : (x.k == y.k) = false := by rw [beq_eq_false_iff_ne]; exact e0
    clear e0
    clear CS
    generalize x.l.length = nx at *
    generalize y.l.length = ny at *
    go_enter Try.func43, Try.ntmps43
    go_upto_region 1 with fail
    have T0 : Trk w _ [(w.heap.size + 1, 48, mcA ⟨y.k, y.f, y.t, y.d, .slice A2 ny c2, y.n, y.a⟩), (w.heap.size, 48, mcA ⟨x.k, x.f, x.t, x.d, .slice A1 nx c1, x.n, x.a⟩)] := ((Trk.nil w).push (t := 48) (cs := mcA ⟨x.k, x.f, x.t, x.d, .slice A1 nx c1, x.n, x.a⟩) rfl).push (t := 48) (cs := mcA ⟨y.k, y.f, y.t, y.d, .slice A2 ny c2, y.n, y.a⟩) (g := w.heap.size + 1) (by simp)
    generalize (w.alloc _).alloc _ = w1 at T0 ⊢
    obtain ⟨q1, -, q0, -, -⟩ := T0.rules
    obtain ⟨l1, l0, -⟩ := T0.lts
    go_wp2_with fail
    go_ret
    exact ⟨by rw [HR.out]; rfl, T0.below⟩
  · have HR := Lib.hid hR
    clear hR
    have b0 : (x.k == y.k) = true := by rw [beq_iff_eq]; exact e0
    have b1 : (x.f == y.f) = false := by rw [beq_eq_false_iff_ne]; exact e1
    clear e0 e1
    clear CS
    generalize x.l.length = nx at *
    generalize y.l.length = ny at *
    go_enter Try.func43, Try.ntmps43
    go_upto_region 1 with fail
    have T0 : Trk w _ [(w.heap.size + 1, 48, mcA ⟨y.k, y.f, y.t, y.d, .slice A2 ny c2, y.n, y.a⟩), (w.heap.size, 48, mcA ⟨x.k, x.f, x.t, x.d, .slice A1 nx c1, x.n, x.a⟩)] := ((Trk.nil w).push (t := 48) (cs := mcA ⟨x.k, x.f, x.t, x.d, .slice A1 nx c1, x.n, x.a⟩) rfl).push (t := 48) (cs := mcA ⟨y.k, y.f, y.t, y.d, .slice A2 ny c2, y.n, y.a⟩) (g := w.heap.size + 1) (by simp)
    generalize (w.alloc _).alloc _ = w1 at T0 ⊢
    obtain ⟨q1, -, q0, -, -⟩ := T0.rules
    obtain ⟨l1, l0, -⟩ := T0.lts
    go_wp2_with fail
    go_ret
    exact ⟨by rw [HR.out]; rfl, T0.below⟩
  · have HR := Lib.hid hR
    clear hR
    have b0 : (x.k == y.k) = true := by rw [beq_iff_eq]; exact e0
    have b1 : (x.f == y.f) = true := by rw [beq_iff_eq]; exact e1
    have b2 : (x.t == y.t) = false := by rw [beq_eq_false_iff_ne]; exact e2
    clear e0 e1 e2
    clear CS
    generalize x.l.length = nx at *
    generalize y.l.length = ny at *
    go_enter Try.func43, Try.ntmps43
    go_upto_region 1 with fail
    have T0 : Trk w _ [(w.heap.size + 1, 48, mcA ⟨y.k, y.f, y.t, y.d, .slice A2 ny c2, y.n, y.a⟩), (w.heap.size, 48, mcA ⟨x.k, x.f, x.t, x.d, .slice A1 nx c1, x.n, x.a⟩)] := ((Trk.nil w).push (t := 48) (cs := mcA ⟨x.k, x.f, x.t, x.d, .slice A1 nx c1, x.n, x.a⟩) rfl).push (t := 48) (cs := mcA ⟨y.k, y.f, y.t, y.d, .slice A2 ny c2, y.n, y.a⟩) (g := w.heap.size + 1) (by simp)
    generalize (w.alloc _).alloc _ = w1 at T0 ⊢
    obtain ⟨q1, -, q0, -, -⟩ := T0.rules
    obtain ⟨l1, l0, -⟩ := T0.lts
    go_wp2_with fail
    go_ret
    exact ⟨by rw [HR.out]; rfl, T0.below⟩
  · have HR := Lib.hid hR
    clear hR
    have b0 : (x.k == y.k) = true := by rw [beq_iff_eq]; exact e0
    have b1 : (x.f == y.f) = true := by rw [beq_iff_eq]; exact e1
    have b2 : (x.t == y.t) = true := by rw [beq_iff_eq]; exact e2
    have b3 : decide (x.d = y.d) = false := decide_eq_false e3
    clear e0 e1 e2 e3
    clear CS
    generalize x.l.length = nx at *
    generalize y.l.length = ny at *
    go_enter Try.func43, Try.ntmps43
    go_upto_region 1 with fail
    have T0 : Trk w _ [(w.heap.size + 1, 48, mcA ⟨y.k, y.f, y.t, y.d, .slice A2 ny c2, y.n, y.a⟩), (w.heap.size, 48, mcA ⟨x.k, x.f, x.t, x.d, .slice A1 nx c1, x.n, x.a⟩)] := ((Trk.nil w).push (t := 48) (cs := mcA ⟨x.k, x.f, x.t, x.d, .slice A1 nx c1, x.n, x.a⟩) rfl).push (t := 48) (cs := mcA ⟨y.k, y.f, y.t, y.d, .slice A2 ny c2, y.n, y.a⟩) (g := w.heap.size + 1) (by simp)
    generalize (w.alloc _).alloc _ = w1 at T0 ⊢
    obtain ⟨q1, -, q0, -, -⟩ := T0.rules
    obtain ⟨l1, l0, -⟩ := T0.lts
    go_wp2_with fail
    go_ret
    exact ⟨by rw [HR.out]; rfl, T0.below⟩
  · have HR := Lib.hid hR
    clear hR
    have b0 : (x.k == y.k) = true := by rw [beq_iff_eq]; exact e0
    have b1 : (x.f == y.f) = true := by rw [beq_iff_eq]; exact e1
    have b2 : (x.t == y.t) = true := by rw [beq_iff_eq]; exact e2
    have b3 : decide (x.d = y.d) = true := decide_eq_true e3
    have b4 : decide (x.l = y.l) = false := decide_eq_false e4
    rw [b4] at CS
    clear b4
    clear e0 e1 e2 e3 e4
    generalize x.l.length = nx at *
    generalize y.l.length = ny at *
    go_enter Try.func43, Try.ntmps43
    go_upto_region 1 with fail
    have T0 : Trk w _ [(w.heap.size + 1, 48, mcA ⟨y.k, y.f, y.t, y.d, .slice A2 ny c2, y.n, y.a⟩), (w.heap.size, 48, mcA ⟨x.k, x.f, x.t, x.d, .slice A1 nx c1, x.n, x.a⟩)] := ((Trk.nil w).push (t := 48) (cs := mcA ⟨x.k, x.f, x.t, x.d, .slice A1 nx c1, x.n, x.a⟩) rfl).push (t := 48) (cs := mcA ⟨y.k, y.f, y.t, y.d, .slice A2 ny c2, y.n, y.a⟩) (g := w.heap.size + 1) (by simp)
    generalize (w.alloc _).alloc _ = w1 at T0 ⊢
    obtain ⟨q1, -, q0, -, -⟩ := T0.rules
    obtain ⟨l1, l0, -⟩ := T0.lts
    go_wp2_with fail
    refine (CS.out _ T0.below).mono ?_
    rintro r w2 ⟨rfl, hb2⟩
    have T2 := T0.call hb2
    clear T0 hb2 q0 q1 l0 l1
    obtain ⟨q1, -, q0, -, -⟩ := T2.rules
    obtain ⟨l1, l0, -⟩ := T2.lts
    go_wp2_with fail
    go_ret
    exact ⟨by rw [HR.out]; rfl, T2.below⟩
  · have HR := Lib.hid hR
    clear hR
    have b0 : (x.k == y.k) = true := by rw [beq_iff_eq]; exact e0
    have b1 : (x.f == y.f) = true := by rw [beq_iff_eq]; exact e1
    have b2 : (x.t == y.t) = true := by rw [beq_iff_eq]; exact e2
    have b3 : decide (x.d = y.d) = true := decide_eq_true e3
    have b4 : decide (x.l = y.l) = true := decide_eq_true e4
    rw [b4] at CS
    clear b4
    have b5 : (x.n == y.n) = false := by rw [beq_eq_false_iff_ne]; exact e5
    clear e0 e1 e2 e3 e4 e5
    generalize x.l.length = nx at *
    generalize y.l.length = ny at *
    go_enter Try.func43, Try.ntmps43
    go_upto_region 1 with fail
    have T0 : Trk w _ [(w.heap.size + 1, 48, mcA ⟨y.k, y.f, y.t, y.d, .slice A2 ny c2, y.n, y.a⟩), (w.heap.size, 48, mcA ⟨x.k, x.f, x.t, x.d, .slice A1 nx c1, x.n, x.a⟩)] := ((Trk.nil w).push (t := 48) (cs := mcA ⟨x.k, x.f, x.t, x.d, .slice A1 nx c1, x.n, x.a⟩) rfl).push (t := 48) (cs := mcA ⟨y.k, y.f, y.t, y.d, .slice A2 ny c2, y.n, y.a⟩) (g := w.heap.size + 1) (by simp)
    generalize (w.alloc _).alloc _ = w1 at T0 ⊢
    obtain ⟨q1, -, q0, -, -⟩ := T0.rules
    obtain ⟨l1, l0, -⟩ := T0.lts
    go_wp2_with fail
    refine (CS.out _ T0.below).mono ?_
    rintro r w2 ⟨rfl, hb2⟩
    have T2 := T0.call hb2
    clear T0 hb2 q0 q1 l0 l1
    obtain ⟨q1, -, q0, -, -⟩ := T2.rules
    obtain ⟨l1, l0, -⟩ := T2.lts
    go_wp2_with fail
    go_ret
    exact ⟨by rw [HR.out]; rfl, T2.below⟩
  · have HR := Lib.hid hR
    clear hR
    have b0 : (x.k == y.k) = true := by rw [beq_iff_eq]; exact e0
    have b1 : (x.f == y.f) = true := by rw [beq_iff_eq]; exact e1
    have b2 : (x.t == y.t) = true := by rw [beq_iff_eq]; exact e2
    have b3 : decide (x.d = y.d) = true := decide_eq_true e3
    have b4 : decide (x.l = y.l) = true := decide_eq_true e4
    rw [b4] at CS
    clear b4
    have b5 : (x.n == y.n) = true := by rw [beq_iff_eq]; exact e5
    have b6 : (x.a == y.a) = false := by rw [beq_eq_false_iff_ne]; exact e6
    clear e0 e1 e2 e3 e4 e5 e6
    generalize x.l.length = nx at *
    generalize y.l.length = ny at *
    go_enter Try.func43, Try.ntmps43
    go_upto_region 1 with fail
    have T0 : Trk w _ [(w.heap.size + 1, 48, mcA ⟨y.k, y.f, y.t, y.d, .slice A2 ny c2, y.n, y.a⟩), (w.heap.size, 48, mcA ⟨x.k, x.f, x.t, x.d, .slice A1 nx c1, x.n, x.a⟩)] := ((Trk.nil w).push (t := 48) (cs := mcA ⟨x.k, x.f, x.t, x.d, .slice A1 nx c1, x.n, x.a⟩) rfl).push (t := 48) (cs := mcA ⟨y.k, y.f, y.t, y.d, .slice A2 ny c2, y.n, y.a⟩) (g := w.heap.size + 1) (by simp)
    generalize (w.alloc _).alloc _ = w1 at T0 ⊢
    obtain ⟨q1, -, q0, -, -⟩ := T0.rules
    obtain ⟨l1, l0, -⟩ := T0.lts
    go_wp2_with fail
    refine (CS.out _ T0.below).mono ?_
    rintro r w2 ⟨rfl, hb2⟩
    have T2 := T0.call hb2
    clear T0 hb2 q0 q1 l0 l1
    obtain ⟨q1, -, q0, -, -⟩ := T2.rules
    obtain ⟨l1, l0, -⟩ := T2.lts
    go_wp2_with fail
    go_ret
    exact ⟨by rw [HR.out]; rfl, T2.below⟩
  · have HR := Lib.hid hR
    clear hR
    have b0 : (x.k == y.k) = true := by rw [beq_iff_eq]; exact e0
    have b1 : (x.f == y.f) = true := by rw [beq_iff_eq]; exact e1
    have b2 : (x.t == y.t) = true := by rw [beq_iff_eq]; exact e2
    have b3 : decide (x.d = y.d) = true := decide_eq_true e3
    have b4 : decide (x.l = y.l) = true := decide_eq_true e4
    rw [b4] at CS
    clear b4
    have b5 : (x.n == y.n) = true := by rw [beq_iff_eq]; exact e5
    have b6 : (x.a == y.a) = true := by rw [beq_iff_eq]; exact e6
    clear e0 e1 e2 e3 e4 e5 e6
    generalize x.l.length = nx at *
    generalize y.l.length = ny at *
    go_enter Try.func43, Try.ntmps43
    go_upto_region 1 with fail
    have T0 : Trk w _ [(w.heap.size + 1, 48, mcA ⟨y.k, y.f, y.t, y.d, .slice A2 ny c2, y.n, y.a⟩), (w.heap.size, 48, mcA ⟨x.k, x.f, x.t, x.d, .slice A1 nx c1, x.n, x.a⟩)] := ((Trk.nil w).push (t := 48) (cs := mcA ⟨x.k, x.f, x.t, x.d, .slice A1 nx c1, x.n, x.a⟩) rfl).push (t := 48) (cs := mcA ⟨y.k, y.f, y.t, y.d, .slice A2 ny c2, y.n, y.a⟩) (g := w.heap.size + 1) (by simp)
    generalize (w.alloc _).alloc _ = w1 at T0 ⊢
    obtain ⟨q1, -, q0, -, -⟩ := T0.rules
    obtain ⟨l1, l0, -⟩ := T0.lts
    go_wp2_with fail
    refine (CS.out _ T0.below).mono ?_
    rintro r w2 ⟨rfl, hb2⟩
    have T2 := T0.call hb2
    clear T0 hb2 q0 q1 l0 l1
    obtain ⟨q1, -, q0, -, -⟩ := T2.rules
    obtain ⟨l1, l0, -⟩ := T2.lts
    go_wp2_with fail
    go_ret
    exact ⟨by rw [HR.out]; rfl, T2.below⟩
end Go.Proofs.Ytnhjphmcdamoaaa
