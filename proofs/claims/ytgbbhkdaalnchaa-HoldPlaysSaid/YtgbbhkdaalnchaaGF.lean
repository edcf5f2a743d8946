/-
  The walks of the document's package leatref08: own, fields, May.
  The walks of the document's package leatref08: fields, May.
-/
import Derived.Test.YtgbbhkdaalnchaaEx
import Derived.Test.YtgbbhkdaalnchaaVecR
import Derived.Deep.DeepCutAuto
import Derived.Deep.CutBlock
namespace Go.Proofs.Ytgbbhkdaalnchaa
set_option linter.unusedVariables false
set_option linter.unusedSimpArgs false
open Go.RowKit

theorem regE_regB (k : Int) : regB k = regE k := rfl
theorem rregion_is (k : Int) (b : Bool) (h : regE k = b) (w : World) :
    Calls Try.prog 54 #[.int .i64 k] w fun e w' => e = .returned (.bool b) ∧ w = w' := by
  subst h; exact rregion_any k w
/-- A whole event stored into the first block that is followed. -/
theorem evA_all (O R : Ev) : (((((((((((((((evA O).setIfInBounds 0 (.int .i64 R.o)).setIfInBounds 1 (.int .u64 R.s)).setIfInBounds 2 (.int .u64 R.d.v0)).setIfInBounds 3 (.int .u64 R.d.v1)).setIfInBounds 4 (.int .u64 R.d.v2)).setIfInBounds 5 (.int .u64 R.d.v3)).setIfInBounds 6 (.int .u64 R.d.v4)).setIfInBounds 7 (.int .u64 R.d.v5)).setIfInBounds 8 (.int .u8 R.k)).setIfInBounds 9 (.int .u64 R.n)).setIfInBounds 10 (.int .i64 R.t)).setIfInBounds 11 (.int .i64 R.a)).setIfInBounds 12 (.int .u64 R.r)).setIfInBounds 13 (.int .u64 R.f)) = evA R := by kernel_rfl
theorem Trk.setEv {w0 w : World} {g : Nat} {t : TypeId} {O : Ev} {bs : List (Nat × TypeId × Array Value)} (h : Trk w0 w ((g, t, evA O) :: bs)) (hB : w0.heap.size ≤ g) (hp : Nes g bs) (R : Ev) :
    Trk w0 ((((((((((((((w.setCell ⟨g, 0, none⟩ (.int .i64 R.o)).setCell ⟨g, 1, none⟩ (.int .u64 R.s)).setCell ⟨g, 2, none⟩ (.int .u64 R.d.v0)).setCell ⟨g, 3, none⟩ (.int .u64 R.d.v1)).setCell ⟨g, 4, none⟩ (.int .u64 R.d.v2)).setCell ⟨g, 5, none⟩ (.int .u64 R.d.v3)).setCell ⟨g, 6, none⟩ (.int .u64 R.d.v4)).setCell ⟨g, 7, none⟩ (.int .u64 R.d.v5)).setCell ⟨g, 8, none⟩ (.int .u8 R.k)).setCell ⟨g, 9, none⟩ (.int .u64 R.n)).setCell ⟨g, 10, none⟩ (.int .i64 R.t)).setCell ⟨g, 11, none⟩ (.int .i64 R.a)).setCell ⟨g, 12, none⟩ (.int .u64 R.r)).setCell ⟨g, 13, none⟩ (.int .u64 R.f)) ((g, t, evA R) :: bs) := by
  rw [← evA_all O R]
  exact ((((((((((((((h.set_ hB hp 0 (.int .i64 R.o)).set_ hB hp 1 (.int .u64 R.s)).set_ hB hp 2 (.int .u64 R.d.v0)).set_ hB hp 3 (.int .u64 R.d.v1)).set_ hB hp 4 (.int .u64 R.d.v2)).set_ hB hp 5 (.int .u64 R.d.v3)).set_ hB hp 6 (.int .u64 R.d.v4)).set_ hB hp 7 (.int .u64 R.d.v5)).set_ hB hp 8 (.int .u8 R.k)).set_ hB hp 9 (.int .u64 R.n)).set_ hB hp 10 (.int .i64 R.t)).set_ hB hp 11 (.int .i64 R.a)).set_ hB hp 12 (.int .u64 R.r)).set_ hB hp 13 (.int .u64 R.f))
theorem results_ev {fn : Func} {s : Nat} (h : fn.results = #[.cell s 32]) (tmps : Array Value) (g : Nat) (e : Ev) (w : World) (ht : tmps.getD s undef = .pointer (some ⟨g, 0, none⟩)) (hb : Blk w g 32 (evA e)) : (results fn tmps).run Try.prog w = .ok (.agg (evA e)) w := by
  obtain ⟨q, -⟩ := hb.rules
  have ht2 : tmps[s]?.getD undef = .pointer (some ⟨g, 0, none⟩) := by rw [← ht]; simp
  simp [results, h, ht2, go_sem, q]
theorem ownE_x (o s k n t a r f : Int) (d : Vec) (h1 : ¬ k = 1) (h2 : ¬ k = 2) (h3 : ¬ k = 3) (h4 : ¬ k = 4) (h5 : ¬ k = 5) (h6 : ¬ k = 6) : ownE ⟨o, s, d, k, n, t, a, r, f⟩ = ⟨o, s, d, k, 0, 0, 0, 0, 0⟩ := by simp [ownE, Ev.bare, h1, h2, h3, h4, h5, h6]
theorem ownE_1 (o s n t a r f : Int) (d : Vec) : ownE ⟨o, s, d, 1, n, t, a, r, f⟩ = ⟨o, s, d, 1, n, 0, a, 0, 0⟩ := by simp [ownE, Ev.bare]
theorem ownE_2 (o s n t a r f : Int) (d : Vec) : ownE ⟨o, s, d, 2, n, t, a, r, f⟩ = ⟨o, s, d, 2, n, 0, a, 0, 0⟩ := by simp [ownE, Ev.bare]
theorem ownE_3 (o s n t a r f : Int) (d : Vec) : ownE ⟨o, s, d, 3, n, t, a, r, f⟩ = ⟨o, s, d, 3, n, 0, a, r, 0⟩ := by simp [ownE, Ev.bare]
theorem ownE_4 (o s n t a r f : Int) (d : Vec) : ownE ⟨o, s, d, 4, n, t, a, r, f⟩ = ⟨o, s, d, 4, 0, 0, 0, r, f⟩ := by simp [ownE, Ev.bare]
theorem ownE_5 (o s n t a r f : Int) (d : Vec) : ownE ⟨o, s, d, 5, n, t, a, r, f⟩ = ⟨o, s, d, 5, n, t, a, 0, 0⟩ := by simp [ownE, Ev.bare]
theorem ownE_6 (o s n t a r f : Int) (d : Vec) : ownE ⟨o, s, d, 6, n, t, a, r, f⟩ = ⟨o, s, d, 6, 0, t, 0, 0, 0⟩ := by simp [ownE, Ev.bare]
set_option maxHeartbeats 1000000 in
theorem rown (e : Ev) (w : World) : Calls Try.prog 67 #[.agg (evA e)] w fun x w' => x = .returned (.agg (evA (ownE e))) ∧ Below w.heap.size w w' := by
  obtain ⟨o, s, d, k, n, t, a, r, f⟩ := e
  go_enter Try.func67, Try.ntmps67
  go_upto_region 2 with fail
  have T : Trk w (((w.alloc (.cells (evA ⟨o, s, d, k, n, t, a, r, f⟩) 32)).alloc (.cells (evA Ev.zero) 32)).alloc (.cells (evA ⟨o, s, d, k, 0, 0, 0, 0, 0⟩) 32)) [(w.heap.size + 1 + 1, 32, evA ⟨o, s, d, k, 0, 0, 0, 0, 0⟩), (w.heap.size + 1, 32, evA Ev.zero), (w.heap.size, 32, evA ⟨o, s, d, k, n, t, a, r, f⟩)] :=
    (((Trk.nil w).push rfl).push (by simp)).push (by simp)
  generalize ((w.alloc _).alloc _).alloc _ = W at T ⊢
  obtain ⟨q2, f2, q1, f1, q0, -, -⟩ := T.rules
  go_upto_block 0 with fail
  go_cut [] (fun wx => Trk w wx [(w.heap.size + 1 + 1, 32, evA (ownE ⟨o, s, d, k, n, t, a, r, f⟩)), (w.heap.size + 1, 32, evA Ev.zero)])
  case first =>
    by_cases h1 : k = 1
    · subst h1
      go_wp2_with fail
      go_meet
      rw [ownE_1]
      exact ((T.set_ (by omega) ⟨by omega, by omega, trivial⟩ 9 (.int .u64 n)).set_ (by omega) ⟨by omega, by omega, trivial⟩ 11 (.int .i64 a)).perm (by simp [evA_set9, evA_set10, evA_set11, evA_set12, evA_set13])
    by_cases h2 : k = 2
    · subst h2
      go_wp2_with fail
      go_meet
      rw [ownE_2]
      exact ((T.set_ (by omega) ⟨by omega, by omega, trivial⟩ 9 (.int .u64 n)).set_ (by omega) ⟨by omega, by omega, trivial⟩ 11 (.int .i64 a)).perm (by simp [evA_set9, evA_set10, evA_set11, evA_set12, evA_set13])
    by_cases h3 : k = 3
    · subst h3
      go_wp2_with fail
      go_meet
      rw [ownE_3]
      exact (((T.set_ (by omega) ⟨by omega, by omega, trivial⟩ 9 (.int .u64 n)).set_ (by omega) ⟨by omega, by omega, trivial⟩ 11 (.int .i64 a)).set_ (by omega) ⟨by omega, by omega, trivial⟩ 12 (.int .u64 r)).perm (by simp [evA_set9, evA_set10, evA_set11, evA_set12, evA_set13])
    by_cases h4 : k = 4
    · subst h4
      go_wp2_with fail
      go_meet
      rw [ownE_4]
      exact ((T.set_ (by omega) ⟨by omega, by omega, trivial⟩ 12 (.int .u64 r)).set_ (by omega) ⟨by omega, by omega, trivial⟩ 13 (.int .u64 f)).perm (by simp [evA_set9, evA_set10, evA_set11, evA_set12, evA_set13])
    by_cases h5 : k = 5
    · subst h5
      go_wp2_with fail
      go_meet
      rw [ownE_5]
      exact (((T.set_ (by omega) ⟨by omega, by omega, trivial⟩ 9 (.int .u64 n)).set_ (by omega) ⟨by omega, by omega, trivial⟩ 11 (.int .i64 a)).set_ (by omega) ⟨by omega, by omega, trivial⟩ 10 (.int .i64 t)).perm (by simp [evA_set9, evA_set10, evA_set11, evA_set12, evA_set13])
    by_cases h6 : k = 6
    · subst h6
      go_wp2_with fail
      go_meet
      rw [ownE_6]
      exact (T.set_ (by omega) ⟨by omega, by omega, trivial⟩ 10 (.int .i64 t)).perm (by simp [evA_set10])
    · have k1 : (k == 1) = false := by rw [beq_eq_false_iff_ne]; exact h1
      have k2 : (k == 2) = false := by rw [beq_eq_false_iff_ne]; exact h2
      have k3 : (k == 3) = false := by rw [beq_eq_false_iff_ne]; exact h3
      have k4 : (k == 4) = false := by rw [beq_eq_false_iff_ne]; exact h4
      have k5 : (k == 5) = false := by rw [beq_eq_false_iff_ne]; exact h5
      have k6 : (k == 6) = false := by rw [beq_eq_false_iff_ne]; exact h6
      go_wp2_with fail
      go_meet
      rw [ownE_x o s k n t a r f d h1 h2 h3 h4 h5 h6]
      exact T.perm (by simp)
  case rest =>
    clear q2 f2 q1 f1 q0 T
    obtain ⟨R, hR⟩ : ∃ R, R = ownE ⟨o, s, d, k, n, t, a, r, f⟩ := ⟨_, rfl⟩
    rw [← hR] at hcut
    have HR := Lib.hid hR
    clear hR
    have T2 : Trk w _ [(w.heap.size + 1, 32, evA Ev.zero), (w.heap.size + 1 + 1, 32, evA R)] := hcut.perm (by simp)
    obtain ⟨q1, f1, q2, f2, -⟩ := T2.rules
    go_wp2_with fail
    have T3 := T2.setEv (by omega) ⟨by omega, trivial⟩ R
    exact bodyPost_ret (v := .agg (evA R)) (results_ev rfl _ _ _ _ rfl (T3.blk _ _ _ List.mem_cons_self)) rfl ⟨by rw [HR.out], T3.below⟩
end Go.Proofs.Ytgbbhkdaalnchaa
namespace Go.Proofs.Ytgbbhkdaalnchaa
set_option linter.unusedVariables false
set_option linter.unusedSimpArgs false
open Go.RowKit

set_option maxHeartbeats 1000000 in
theorem rfields (e : Ev) (w : World) : Calls Try.prog 68 #[.agg (evA e)] w fun r w' => r = .returned (.bool (fieldsB e)) ∧ Below w.heap.size w w' := by
  obtain ⟨b, hb⟩ : ∃ b, regE e.t = b := ⟨_, rfl⟩
  have C1 := Lib.hid (rregion_is e.t b hb)
  have HB := Lib.hid (show toB e = (b && decide (e.t ≠ e.o)) by unfold toB; rw [hb])
  clear hb
  go_enter Try.func68, Try.ntmps68
  go_upto_region 1 with fail
  go_cut [3] (fun s3 wx => s3 = .bool (amountB 1 e) ∧ wx = w.alloc (.cells (evA e) 32))
  case first =>
    go_wp2_with fail
    all_goals
      go_meet
      exact ⟨by simp [amountB] <;> omega, rfl⟩
  case rest =>
    obtain ⟨rfl, rfl⟩ := hcut
    go_upto_region 2 with fail
    go_cut [4] (fun s4 wx => s4 = .bool (toB e) ∧ wx = w.alloc (.cells (evA e) 32))
    case first =>
      rcases (show b = false ∨ b = true from by cases b <;> simp) with rfl | rfl
      all_goals
        go_wp2_with (go_at_call 54; (with_reducible refine (C1.out _).mono ?_); rintro r w1 ⟨rfl, rfl⟩)
        go_meet
        exact ⟨by rw [HB.out]; first | rfl | (simp [bne]; rfl), rfl⟩
    case rest =>
      obtain ⟨rfl, rfl⟩ := hcut
      generalize hx : amountB 1 e = x
      generalize hy : toB e = y
      have HX := Lib.hid hx
      have HY := Lib.hid hy
      clear hx hy
      have hb1 : Below w.heap.size w (w.alloc (.cells (evA e) 32)) := (Below.refl _ _).alloc (Nat.le_refl _) _
      by_cases h1 : e.k = 1
      · go_wp2_with fail
        all_goals
          go_ret
          exact ⟨by simp [fieldsB, h1, amountB] <;> omega, hb1⟩
      by_cases h2 : e.k = 2
      · go_wp2_with fail
        go_ret
        exact ⟨by simp [fieldsB, h2, HX.out], hb1⟩
      by_cases h3 : e.k = 3
      · rcases (show x = false ∨ x = true from by cases x <;> simp) with rfl | rfl
        all_goals
          go_wp2_with fail
          go_ret
          exact ⟨by simp [fieldsB, h3, HX.out], hb1⟩
      by_cases h4 : e.k = 4
      · go_wp2_with fail
        all_goals
          go_ret
          refine ⟨?_, hb1⟩
          first
            | (have a1 : 1 ≤ e.r := by assumption
               have a2 : 1 ≤ e.f := by assumption
               simp [fieldsB, h4, bne, a1, a2]
               done)
            | (have a1 : 1 ≤ e.r := by assumption
               have a2 : 1 ≤ e.f := by assumption
               simp [fieldsB, h4, bne, a1, a2]
               rfl)
            | (simp [fieldsB, h4, bne] <;> omega)
      by_cases h5 : e.k = 5
      · rcases (show x = false ∨ x = true from by cases x <;> simp) with rfl | rfl
        all_goals
          go_wp2_with fail
          go_ret
          exact ⟨by simp [fieldsB, h5, HX.out, HY.out], hb1⟩
      by_cases h6 : e.k = 6
      · go_wp2_with fail
        go_ret
        exact ⟨by simp [fieldsB, h6, HY.out], hb1⟩
      · have k1 : (e.k == 1) = false := by rw [beq_eq_false_iff_ne]; exact h1
        have k2 : (e.k == 2) = false := by rw [beq_eq_false_iff_ne]; exact h2
        have k3 : (e.k == 3) = false := by rw [beq_eq_false_iff_ne]; exact h3
        have k4 : (e.k == 4) = false := by rw [beq_eq_false_iff_ne]; exact h4
        have k5 : (e.k == 5) = false := by rw [beq_eq_false_iff_ne]; exact h5
        have k6 : (e.k == 6) = false := by rw [beq_eq_false_iff_ne]; exact h6
        go_wp2_with fail
        go_ret
        exact ⟨by simp [fieldsB, h1, h2, h3, h4, h5, h6]; rfl, hb1⟩
end Go.Proofs.Ytgbbhkdaalnchaa
