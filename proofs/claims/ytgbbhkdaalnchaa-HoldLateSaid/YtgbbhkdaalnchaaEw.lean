/-
  The walk of package event: May.
-/
import Derived.Test.YtgbbhkdaalnchaaEv
import Derived.Test.YtgbbhkdaalnchaaGA
namespace Go.Proofs.Ytgbbhkdaalnchaa
set_option linter.unusedVariables false
set_option linter.unusedSimpArgs false
open Go.RowKit

/-- The greatest of the first numbers. -/
def vmx (d : Vec) : Nat → Int
  | 0 => d.get 0
  | k + 1 => max (vmx d k) (d.get (k + 1))
theorem vmx_iff (d : Vec) (m : Int) (k : Nat) : vmx d k < m ↔ ∀ j, j ≤ k → d.get j < m := by
  induction k with
  | zero =>
    constructor
    · intro h j hj
      obtain rfl : j = 0 := by omega
      exact h
    · intro h
      exact h 0 (Nat.le_refl _)
  | succ k ih =>
    simp only [vmx]
    constructor
    · intro h j hj
      by_cases e : j = k + 1
      · subst e; omega
      · exact ih.1 (by omega) j (by omega)
    · intro h
      have h1 := ih.2 fun j hj => h j (by omega)
      have h2 := h (k + 1) (Nat.le_refl _)
      omega
theorem vmx_below (d : Vec) : decide (1099511627776 ≤ vmx d 5) = !belowMax d := by
  cases hb : belowMax d with
  | true =>
    have := (vmx_iff d 1099511627776 5).2 fun j hj => belowMax_iff.1 hb j (by omega)
    simp; omega
  | false =>
    have : ¬ vmx d 5 < 1099511627776 := fun h => by
      rw [belowMax_iff.2 fun j hj => (vmx_iff d 1099511627776 5).1 h j (by omega)] at hb
      cases hb
    simp; omega
theorem mx_if (x y : Int) : (if x < y then y else x) = max x y := by omega
theorem smax_any (g : Nat) (d : Vec) (w : World) (hc : ∀ i, i < 6 → w.cell? ⟨g, 2 + i, none⟩ = some (.int .u64 (d.get i))) :
    Calls Try.prog 65 #[.slice (some ⟨g, 2, none⟩) 6 6] w fun e w' => e = .returned (.int .u64 (vmx d 5)) ∧ w = w' := by
  have h0 := hc 0 (by omega)
  have HC := Lib.hid hc
  clear hc
  go_enter Try.func65, Try.ntmps65
  go_wp2_with fail
  go_loop [3, 4] (fun m i => ∃ k : Nat, k < 6 ∧ i = .int .i64 ((k : Int) + 1) ∧ m = .int .u64 (vmx d k)) (fun _ i => 6 - (intOf i).toNat)
  case atStart => exact ⟨0, by omega, rfl, rfl⟩
  case round =>
    obtain ⟨k, hk, rfl, rfl⟩ := hrel
    by_cases hlt : k < 5
    · have h1 := HC.out (k + 1) (by omega)
      have hm := Lib.hid (show max (vmx d k) (d.get (k + 1)) = vmx d (k + 1) from rfl)
      have i1 : (0 : Int) ≤ (k : Int) + 1 := by omega
      have i2 : (k : Int) + 1 < 6 := by omega
      have i3 : ((k : Int) + 1).toNat = k + 1 := by omega
      go_wp2_with fail
      all_goals
        go_round
        case rel => exact ⟨k + 1, by omega, by go_num, by rw [← hm.out]; congr 1; first | omega | rfl⟩
        case measure => simp [intOf]; omega
    · obtain rfl : k = 5 := by omega
      go_wp2_with fail
      go_ret
      exact ⟨rfl, rfl⟩

/-- Where it goes: which of the first tests says no. -/
theorem place_no (e : Ev) (h : placeB e = false) (hv : e.ok) : regE e.o = false ∨ (∃ k : Nat, k < 6 ∧ e.o = (k : Int) + 1 ∧ (e.s < 1 ∨ (1 ≤ e.s ∧ 1099511627776 ≤ e.s) ∨ (1 ≤ e.s ∧ e.s < 1099511627776 ∧ e.d.get k ≠ e.s - 1) ∨ (1 ≤ e.s ∧ e.s < 1099511627776 ∧ e.d.get k = e.s - 1 ∧ belowMax e.d = false))) := by
  cases hr : regE e.o with
  | false => exact .inl rfl
  | true =>
    obtain ⟨k, hk, ho⟩ := regE_out hr
    refine .inr ⟨k, hk, ho, ?_⟩
    have e1 : (e.o - 1).toNat = k := by omega
    unfold placeB at h
    rw [hr, e1] at h
    simp only [Bool.true_and] at h
    by_cases h1 : e.s < 1
    · exact .inl h1
    · by_cases h2 : e.s < 1099511627776
      · by_cases h3 : e.d.get k = e.s - 1
        · refine .inr (.inr (.inr ⟨by omega, h2, h3, ?_⟩))
          simpa [h2, h3, show (1 ≤ e.s) from by omega] using h
        · exact .inr (.inr (.inl ⟨by omega, h2, h3⟩))
      · exact .inr (.inl ⟨by omega, by omega⟩)
theorem place_yes (e : Ev) (h : placeB e = true) : ∃ k : Nat, k < 6 ∧ e.o = (k : Int) + 1 ∧ 1 ≤ e.s ∧ e.s < 1099511627776 ∧ e.d.get k = e.s - 1 ∧ belowMax e.d = true := by
  unfold placeB at h
  simp only [Bool.and_eq_true, decide_eq_true_eq] at h
  obtain ⟨⟨⟨⟨h1, h2⟩, h3⟩, h4⟩, h5⟩ := h
  obtain ⟨k, hk, ho⟩ := regE_out h1
  have e1 : (e.o - 1).toNat = k := by omega
  rw [e1] at h4
  exact ⟨k, hk, ho, h2, h3, h4, h5⟩
theorem evA_dep (e : Ev) (k : Nat) (h : k < 6) : (evA e)[2 + k]? = some (.int .u64 (e.d.get k)) :=
  Vec.six (P := fun k => (evA e)[2 + k]? = some (.int .u64 (e.d.get k))) rfl rfl rfl rfl rfl rfl k h

set_option maxHeartbeats 400000 in
theorem emay_no (e : Ev) (hv : e.ok) (h : placeB e = false) (w : World) : Calls Try.prog 44 #[.agg (evA e)] w fun r w' => r = .returned (.bool false) ∧ Below w.heap.size w w' := by
  rcases place_no e h hv with hr | ⟨k, hk, ho, h1 | ⟨h1, h2⟩ | ⟨h1, h2, h3⟩ | ⟨h1, h2, h3, h4⟩⟩
  · have C1 := Lib.hid (eregion_is e.o false hr)
    clear hr h
    go_enter Try.func44, Try.ntmps44
    go_wp2_with fail
    go_quiet ((go_at_call 64; exact Calls.quiet_of_same ((C1.out _).mono fun _ _ ⟨h1, h2⟩ => ⟨h1, h2.symm⟩)))
    go_wp2_with fail
    go_ret
    exact ⟨rfl, below_drewN ((Below.refl _ _).alloc (Nat.le_refl _) _) _⟩
  · have C1 := Lib.hid (eregion_is e.o true (by rw [ho]; exact regE_yes k hk))
    have d1 : decide (e.s < 1) = true := by simpa using h1
    clear ho h
    go_enter Try.func44, Try.ntmps44
    go_wp2_with fail
    go_quiet ((go_at_call 64; exact Calls.quiet_of_same ((C1.out _).mono fun _ _ ⟨h1, h2⟩ => ⟨h1, h2.symm⟩)))
    go_wp2_with fail
    go_ret
    exact ⟨rfl, below_drewN ((Below.refl _ _).alloc (Nat.le_refl _) _) _⟩
  · have C1 := Lib.hid (eregion_is e.o true (by rw [ho]; exact regE_yes k hk))
    have d1 : decide (e.s < 1) = false := by simpa using h1
    have d2 : decide (1099511627776 ≤ e.s) = true := by simpa using h2
    clear ho h
    go_enter Try.func44, Try.ntmps44
    go_wp2_with fail
    go_quiet ((go_at_call 64; exact Calls.quiet_of_same ((C1.out _).mono fun _ _ ⟨h1, h2⟩ => ⟨h1, h2.symm⟩)))
    go_wp2_with fail
    go_ret
    exact ⟨rfl, below_drewN ((Below.refl _ _).alloc (Nat.le_refl _) _) _⟩
  · have C1 := Lib.hid (eregion_is e.o true (by rw [ho]; exact regE_yes k hk))
    have d1 : decide (e.s < 1) = false := by simpa using h1
    have d2 : decide (1099511627776 ≤ e.s) = false := by simpa using h2
    have s1 : IntKind.u64.wrap (e.s - 1) = e.s - 1 := IntWalk.u64_in _ (by omega)
    have o1 : IntKind.i64.wrap (e.o - 1) = (k : Int) := by rw [ho]; simp; exact IntWalk.i64_in _ (by omega)
    have i1 : (0 : Int) ≤ (k : Int) := by omega
    have i2 : (k : Int) < 6 := by omega
    have g1 := evA_dep e k hk
    have n1 : (e.d.get k != e.s - 1) = true := by simpa [bne] using h3
    clear ho h h3
    go_enter Try.func44, Try.ntmps44
    go_wp2_with fail
    go_quiet ((go_at_call 64; exact Calls.quiet_of_same ((C1.out _).mono fun _ _ ⟨h1, h2⟩ => ⟨h1, h2.symm⟩)))
    go_wp2_with fail
    go_ret
    exact ⟨rfl, below_drewN ((Below.refl _ _).alloc (Nat.le_refl _) _) _⟩
  · have C1 := Lib.hid (eregion_is e.o true (by rw [ho]; exact regE_yes k hk))
    have d1 : decide (e.s < 1) = false := by simpa using h1
    have d2 : decide (1099511627776 ≤ e.s) = false := by simpa using h2
    have s1 : IntKind.u64.wrap (e.s - 1) = e.s - 1 := IntWalk.u64_in _ (by omega)
    have o1 : IntKind.i64.wrap (e.o - 1) = (k : Int) := by rw [ho]; simp; exact IntWalk.i64_in _ (by omega)
    have i1 : (0 : Int) ≤ (k : Int) := by omega
    have i2 : (k : Int) < 6 := by omega
    have g1 := evA_dep e k hk
    have n1 : (e.d.get k != e.s - 1) = false := by simpa [bne] using h3
    have hm : decide (1099511627776 ≤ vmx e.d 5) = true := by rw [vmx_below, h4]; rfl
    have C2 := Lib.hid fun W hc => smax_any w.heap.size e.d W hc
    clear ho h h3 h4
    go_enter Try.func44, Try.ntmps44
    go_wp2_with fail
    go_quiet ((go_at_call 64; exact Calls.quiet_of_same ((C1.out _).mono fun _ _ ⟨h1, h2⟩ => ⟨h1, h2.symm⟩)))
    go_wp2_with fail
    refine (C2.out _ ?hc).mono ?_
    (case hc => exact fun i hi => (((((Trk.nil w).push (t := 32) (cs := evA e) rfl).drewN nq).blk _ _ _ List.mem_cons_self).cell (2 + i)).trans (evA_dep e i hi))
    rintro r w1 ⟨rfl, rfl⟩
    go_wp2_with fail
    go_ret
    exact ⟨rfl, below_drewN ((Below.refl _ _).alloc (Nat.le_refl _) _) _⟩
end Go.Proofs.Ytgbbhkdaalnchaa
