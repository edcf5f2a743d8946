/-
  The walk of the document's Put of any message; Cut, Twice.
-/
import Derived.Test.YtnhjphmcdamoaaaNdB
namespace Go.Proofs.Ytnhjphmcdamoaaa
set_option linter.unusedVariables false
set_option linter.unusedSimpArgs false
open Go.RowKit Go
set_option maxRecDepth 100000

section
variable {w0 w : World} {h : Nat} {s : Value} {X : List Mc} {L : List Ms} {C : Nat → Bool}
theorem rput (m : Ms) (o : m.ok) (A : Option Addr) (c : Nat) (hc : m.l.length ≤ c) (hmx : c ≤ maxLen) (N : Doc w0 w h s X L C) (hL : ERows w w0.heap.size A m.l) :
    Calls Try.prog 41 #[.pointer (some ⟨h, 0, none⟩), .agg (mcA ⟨m.k, m.f, m.t, m.d, .slice A m.l.length c, m.n, m.a⟩)] w fun e w' => e = .returned (.int .i64 (putC L C m)) ∧ DocTo w0 w w' h s (putL L C m) C := by
  have hL2 := hL.mono N.b.size
  cases hm : mmayB m with
  | false =>
    have e1 : putC L C m = 1 := by simp [putC, hm]
    have e2 : putL L C m = L := by simp [putL, hm]
    rw [e1, e2]
    refine (rput_not m o hm A c hL2 hc hmx).mono ?_
    rintro e w' ⟨rfl, hb⟩
    exact ⟨rfl, .same N hb⟩
  | true =>
    obtain ⟨i, j, hi, hj, -, ei, ej⟩ := may_ends hm
    have hcut : cutI m = i * 6 + j := by simp [cutI, ei, ej]
    have hXL := N.evs.len
    cases hC : C (i * 6 + j) with
    | true =>
      have e1 : putC L C m = 0 := by simp [putC, hm, hcut, hC]
      have e2 : putL L C m = L := by simp [putL, hm, hcut, hC]
      rw [e1, e2]
      obtain ⟨k, f, t, d, l, n, a⟩ := m
      dsimp only at *
      subst ei ej
      refine (rput_cut k i j hi hj d l n a o hm A c hL2 hc hmx N.blk hC).mono ?_
      rintro e w' ⟨rfl, hb⟩
      exact ⟨rfl, .same N hb⟩
    | false =>
      by_cases h8 : 128 ≤ L.length
      · have e1 : putC L C m = 7 := by simp [putC, hm, hcut, hC, h8]
        have e2 : putL L C m = L := by simp [putL, hm, hcut, hC, h8]
        rw [e1, e2]
        obtain ⟨A1, c1, rfl, -⟩ := own_open N.own
        obtain ⟨k, f, t, d, l, n, a⟩ := m
        dsimp only at *
        subst ei ej
        refine (rput_full k i j hi hj d l n a o hm A c hL2 hc hmx A1 X.length c1 N.blk hC (by omega)).mono ?_
        rintro e w' ⟨rfl, hb⟩
        exact ⟨rfl, .same N hb⟩
      · have e1 : putC L C m = 0 := by simp [putC, hm, hcut, hC, h8]
        have e2 : putL L C m = L ++ [m] := by simp [putL, hm, hcut, hC, h8]
        rw [e1, e2]
        obtain ⟨k, f, t, d, l, n, a⟩ := m
        dsimp only at *
        subst ei ej
        exact rput_ok k i j hi hj d l n a o hm A c hc hmx N hL hC (by omega)
set_option maxHeartbeats 2000000 in
theorem rcut_ok (i j : Nat) (hi : i < 6) (hj : j < 6) (hij : i ≠ j) (N : Doc w0 w h s X L C) :
    Calls Try.prog 46 #[.pointer (some ⟨h, 0, none⟩), .int .i64 ((i : Int) + 1), .int .i64 ((j : Int) + 1)] w fun e w' => e = .returned (.int .i64 0) ∧ Doc w0 w' h s X L (cutSet (cutSet C (i * 6 + j) true) (j * 6 + i) true) ∧ Fr w w' h none := by
  have e1 : ((i : Int) + 1 == (j : Int) + 1) = false := by rw [beq_eq_false_iff_ne]; omega
  have e2 : decide ((i : Int) + 1 < 1) = false := decide_eq_false (by omega)
  have e3 : decide ((6 : Int) < (i : Int) + 1) = false := decide_eq_false (by omega)
  have e4 : decide ((j : Int) + 1 < 1) = false := decide_eq_false (by omega)
  have e5 : decide ((6 : Int) < (j : Int) + 1) = false := decide_eq_false (by omega)
  have a1 : (0 : Int) ≤ (i : Int) := by omega
  have a2 : (i : Int) < 6 := by omega
  have a3 : (0 : Int) ≤ (j : Int) := by omega
  have a4 : (j : Int) < 6 := by omega
  obtain ⟨q0, f0⟩ := N.blk.rules
  have l0 := N.blk.lt
  have g1 := netA_get s C (i * 6 + j) (by omega)
  have g2 := netA_get s C (j * 6 + i) (by omega)
  rw [← Nat.add_assoc] at g1 g2
  have x1 : w.cell? ⟨h, 1 + i * 6 + j, none⟩ = some (.bool (C (i * 6 + j))) := by rw [q0]; exact g1
  have x2 : w.cell? ⟨h, 1 + j * 6 + i, none⟩ = some (.bool (C (j * 6 + i))) := by rw [q0]; exact g2
  have n1 : ¬ 1 + i * 6 + j = 1 + j * 6 + i := by omega
  have n2 : ¬ 1 + j * 6 + i = 1 + i * 6 + j := by omega
  clear q0 g1 g2
  go_enter Try.func46, Try.ntmps46
  go_wp2_with fail
  have k1 := netA_set s C (i * 6 + j) (by omega) true
  have k2 := netA_set s (cutSet C (i * 6 + j) true) (j * 6 + i) (by omega) true
  rw [← Nat.add_assoc] at k1 k2
  have b1 := (N.blk.set_ (1 + i * 6 + j) (.bool true)).set_ (1 + j * 6 + i) (.bool true)
  rw [k1, k2] at b1
  have F2 : Fr w _ h none := (Fr.of_set (w := w) ⟨h, 1 + i * 6 + j, none⟩ rfl (.bool true)).set ⟨h, 1 + j * 6 + i, none⟩ rfl (.bool true)
  go_ret
  exact ⟨rfl, N.move F2.weak b1 (F2.own N.own N.s_ne (by cases s.ownBlock <;> simp)) (N.evs' F2.weak), F2⟩
theorem rcut_bad (i j : Int) (hb : regE i = false ∨ (regE i = true ∧ regE j = false) ∨ (regE i = true ∧ regE j = true ∧ (i == j) = true)) (w : World) : Calls Try.prog 46 #[.pointer (some ⟨h, 0, none⟩), .int .i64 i, .int .i64 j] w fun e w' => e = .returned (.int .i64 10) ∧ w = w' := by
  have hr : ∀ k, regE k = (!decide (k < 1) && !decide (6 < k)) := fun k => by
    rw [Bool.eq_iff_iff]
    simp only [regE, Bool.and_eq_true, decide_eq_true_eq, Bool.not_eq_true', decide_eq_false_iff_not]
    omega
  rw [hr, hr] at hb
  cases h1 : decide (i < 1) with
  | true =>
    clear hb
    go_enter Try.func46, Try.ntmps46
    go_wp2_with fail
    go_ret
    exact ⟨rfl, rfl⟩
  | false =>
    cases h2 : decide (6 < i) with
    | true =>
      clear hb
      go_enter Try.func46, Try.ntmps46
      go_wp2_with fail
      go_ret
      exact ⟨rfl, rfl⟩
    | false =>
      cases h3 : decide (j < 1) with
      | true =>
        clear hb
        go_enter Try.func46, Try.ntmps46
        go_wp2_with fail
        go_ret
        exact ⟨rfl, rfl⟩
      | false =>
        cases h4 : decide (6 < j) with
        | true =>
          clear hb
          go_enter Try.func46, Try.ntmps46
          go_wp2_with fail
          go_ret
          exact ⟨rfl, rfl⟩
        | false =>
          rw [h1, h2, h3, h4] at hb
          have h5 : (i == j) = true := by
            rcases hb with hb | hb | hb
            · cases hb
            · cases hb.2
            · exact hb.2.2
          clear hb
          go_enter Try.func46, Try.ntmps46
          go_wp2_with fail
          go_ret
          exact ⟨rfl, rfl⟩
theorem rtwice_none (k : Int) (A1 : Option Addr) (n1 c1 : Nat) (hB : Blk w h 64 (netA (.slice A1 n1 c1) C)) (hk : ¬ (0 ≤ k ∧ k < (n1 : Int))) :
    Calls Try.prog 45 #[.pointer (some ⟨h, 0, none⟩), .int .i64 k] w fun e w' => e = .returned (.int .i64 4) ∧ w = w' := by
  obtain ⟨q, -⟩ := hB.rules
  have q0 : w.cell? ⟨h, 0, none⟩ = some (.slice A1 n1 c1) := q 0
  have l0 := hB.lt
  clear hB q
  by_cases h0 : k < 0
  · have d0 : decide (k < 0) = true := decide_eq_true h0
    clear hk
    go_enter Try.func45, Try.ntmps45
    go_wp2_with fail
    go_ret
    exact ⟨rfl, rfl⟩
  · have d0 : decide (k < 0) = false := decide_eq_false h0
    have d1 : decide ((n1 : Int) ≤ k) = true := decide_eq_true (by omega)
    clear hk
    go_enter Try.func45, Try.ntmps45
    go_wp2_with fail
    go_ret
    exact ⟨rfl, rfl⟩
theorem rtwice_full (k : Int) (A1 : Option Addr) (n1 c1 : Nat) (hB : Blk w h 64 (netA (.slice A1 n1 c1) C)) (hk : 0 ≤ k ∧ k < (n1 : Int)) (hn : (128 : Int) ≤ (n1 : Int)) :
    Calls Try.prog 45 #[.pointer (some ⟨h, 0, none⟩), .int .i64 k] w fun e w' => e = .returned (.int .i64 7) ∧ w = w' := by
  obtain ⟨q, -⟩ := hB.rules
  have q0 : w.cell? ⟨h, 0, none⟩ = some (.slice A1 n1 c1) := q 0
  have l0 := hB.lt
  have d0 : decide (k < 0) = false := decide_eq_false (by omega)
  have d1 : decide ((n1 : Int) ≤ k) = false := decide_eq_false (by omega)
  have d2 : decide ((128 : Int) ≤ (n1 : Int)) = true := decide_eq_true hn
  clear hB q hk
  go_enter Try.func45, Try.ntmps45
  go_wp2_with fail
  go_ret
  exact ⟨rfl, rfl⟩
set_option maxHeartbeats 4000000 in
theorem rtwice_ok (k : Nat) (m : Ms) (hk : L[k]? = some m) (N : Doc w0 w h s X L C) (hX : X.length < 128) :
    Calls Try.prog 45 #[.pointer (some ⟨h, 0, none⟩), .int .i64 (k : Int)] w fun e w' => e = .returned (.int .i64 0) ∧ DocTo w0 w w' h s (L ++ [m]) C := by
  obtain ⟨x, hx, hy⟩ := N.evs.get hk
  have HY := Lib.hid hy
  obtain ⟨Ax, cx, rfl, hcx, hmx, hrx⟩ := hy.ex
  have hkX : k < X.length := (List.getElem?_eq_some_iff.1 hx).1
  obtain ⟨A1, c1, rfl, hc1, hm1, hrd⟩ := own_open N.own
  obtain ⟨bx, o1, rfl, hbx, y0, y1, y2, y3, y4, y5, y6, y7, y8, y9, y10, y11⟩ := MRows.at_ hrd hx
  clear hrd hrx hx hk hy
  have a1 : (0 : Int) ≤ (k : Int) := by omega
  have a2 : (k : Int) < (X.length : Int) := by omega
  have d0 : decide ((k : Int) < 0) = false := decide_eq_false (by omega)
  have d1 : decide ((X.length : Int) ≤ (k : Int)) = false := decide_eq_false (by omega)
  have d2 : decide ((128 : Int) ≤ (X.length : Int)) = false := decide_eq_false (by omega)
  obtain ⟨q0, f0⟩ := N.blk.rules
  have l0 := N.blk.lt
  have x0 : w.cell? ⟨h, 0, none⟩ = some (.slice (some ⟨bx, o1, none⟩) X.length c1) := q0 0
  have N4 := N.call (w' := w.drew) (Below.refl _ _).drew
  clear q0
  go_enter Try.func45, Try.ntmps45
  go_upto_region 5 with fail
  go_region_law (refine step_append_mc rfl (.tmp 26) (.tmp 34) rfl w0.heap.size _ X ⟨m.k, m.f, m.t, m.d, .slice Ax m.l.length cx, m.n, m.a⟩ ⟨Ax, _, cx, rfl⟩ rfl (N4.own.alloc _) w.heap.size rfl (Blk.new_at rfl rfl) (by omega) (Nat.le_trans N4.b.size (by simp)) ?_
                 intro v' w5 hown' hb' hg' hf'
                 obtain ⟨A5, c5, e5, -⟩ := own_open hown'
                 obtain rfl : v' = .slice A5 (X.length + 1) c5 := by rw [e5, List.length_append]; rfl
                 clear e5
                 have z0 : w5.cell? ⟨h, 0, none⟩ = some (.slice (some ⟨bx, o1, none⟩) X.length c1) := hg'.cell (a := ⟨h, 0, none⟩) (v := .slice (some ⟨bx, o1, none⟩) X.length c1) ((N4.blk.alloc _).rules.1 0) (fun e => N4.s_ne e.symm)
                 have z1 : w5.frozen? ⟨h, 0, none⟩ = false := by rw [World.frozen?_of_block (hg'.block h (Nat.lt_of_lt_of_le l0 (by simp)) (fun e => N4.s_ne e.symm))]; exact ((N4.blk.alloc _).rules).2 0)
  all_goals
    have R := doc_put (m := m) N4 ((Below.refl w.heap.size w).drew) (HY.out.below (Below.refl _ _).drew) _ hg' hown' hf'
    clear N4 N hb' hg' hown' hf' z0 z1 x0 f0 l0 HY y0 y1 y2 y3 y4 y5 y6 y7 y8 y9 y10 y11
    generalize (World.setCell _ _ _) = w6 at R ⊢
    go_wp2_with fail
    go_ret
    exact ⟨rfl, R⟩
end
end Go.Proofs.Ytnhjphmcdamoaaa
