/-
  The walk of package net: Put of any message; Twice.
-/
import Derived.Test.YtnhjphmcdamoaaaNt8
namespace Go.Proofs.Ytnhjphmcdamoaaa
set_option linter.unusedVariables false
set_option linter.unusedSimpArgs false
open Go.RowKit Go
set_option maxRecDepth 100000

/-- Which cut a message meets. -/
def cutI (m : Ms) : Nat := (m.f - 1).toNat * 6 + (m.t - 1).toNat
/-- What Put answers, and what is under way behind it. -/
def putC (L : List Ms) (C : Nat → Bool) (m : Ms) : Int := if mmayB m = false then 1 else if C (cutI m) = true then 0 else if 128 ≤ L.length then 7 else 0
def putL (L : List Ms) (C : Nat → Bool) (m : Ms) : List Ms := if mmayB m = false then L else if C (cutI m) = true then L else if 128 ≤ L.length then L else L ++ [m]
/-- What Twice answers. -/
def twiceC (L : List Ms) (k : Int) : Int := if ¬ (0 ≤ k ∧ k < (L.length : Int)) then 4 else if 128 ≤ L.length then 7 else 0
def twiceL (L : List Ms) (k : Int) : List Ms := if ¬ (0 ≤ k ∧ k < (L.length : Int)) then L else if 128 ≤ L.length then L else L ++ (L[k.toNat]?).toList
theorem may_ends {m : Ms} (h : mmayB m = true) : ∃ i j : Nat, i < 6 ∧ j < 6 ∧ i ≠ j ∧ m.f = (i : Int) + 1 ∧ m.t = (j : Int) + 1 := by
  unfold mmayB endsB at h
  simp only [Bool.and_eq_true, decide_eq_true_eq] at h
  obtain ⟨i, hi, ei⟩ := regE_out h.1.1.1.1
  obtain ⟨j, hj, ej⟩ := regE_out h.1.1.1.2
  have hne := h.1.1.2
  exact ⟨i, j, hi, hj, fun e => hne (by omega), ei, ej⟩
section
variable {w0 w : World} {bs : List (Nat × TypeId × Array Value)} {h : Nat} {s : Value} {X : List Mc} {L : List Ms} {C : Nat → Bool}
theorem nput (m : Ms) (o : m.ok) (A : Option Addr) (c : Nat) (hL : ERows w w.heap.size A m.l) (hc : m.l.length ≤ c) (hmx : c ≤ maxLen) (hn : m.l.length ≤ 100000) (N : Net w0 w bs h s X L C) :
    Calls Try.prog 33 #[.pointer (some ⟨h, 0, none⟩), .agg (mcA ⟨m.k, m.f, m.t, m.d, .slice A m.l.length c, m.n, m.a⟩)] w fun e w' => e = .returned (.int .i64 (putC L C m)) ∧ NetTo w0 w w' bs h s X (putL L C m) C := by
  cases hm : mmayB m with
  | false =>
    have e1 : putC L C m = 1 := by simp [putC, hm]
    have e2 : putL L C m = L := by simp [putL, hm]
    rw [e1, e2]
    refine (nput_not m o hm A c hL hc hmx N.blk).mono ?_
    rintro e w' ⟨rfl, hb⟩
    exact ⟨rfl, .same N hb⟩
  | true =>
    obtain ⟨i, j, hi, hj, -, ei, ej⟩ := may_ends hm
    have hcut : cutI m = i * 6 + j := by simp [cutI, ei, ej]
    have hXL := N.evs.len
    cases hC : C (i * 6 + j) with
    | true =>
      have e1 : putC L C m = 0 := by simp [putC, hm, hcut, hC]
      have e2 : putL L C m = L := by simp [putL, hm, hcut, hC]
      rw [e1, e2]
      obtain ⟨k, f, t, d, l, n, a⟩ := m
      dsimp only at *
      subst ei ej
      refine (nput_cut k i j hi hj d l n a o hm A c hL hc hmx N.blk hC).mono ?_
      rintro e w' ⟨rfl, hb⟩
      exact ⟨rfl, .same N hb⟩
    | false =>
      by_cases h8 : 128 ≤ L.length
      · have e1 : putC L C m = 7 := by simp [putC, hm, hcut, hC, h8]
        have e2 : putL L C m = L := by simp [putL, hm, hcut, hC, h8]
        rw [e1, e2]
        obtain ⟨A1, c1, rfl, -⟩ := own_open N.own
        obtain ⟨k, f, t, d, l, n, a⟩ := m
        dsimp only at *
        subst ei ej
        refine (nput_full k i j hi hj d l n a o hm A c hL hc hmx A1 X.length c1 N.blk hC (by omega)).mono ?_
        rintro e w' ⟨rfl, hb⟩
        exact ⟨rfl, .same N hb⟩
      · have e1 : putC L C m = 0 := by simp [putC, hm, hcut, hC, h8]
        have e2 : putL L C m = L ++ [m] := by simp [putL, hm, hcut, hC, h8]
        rw [e1, e2]
        obtain ⟨k, f, t, d, l, n, a⟩ := m
        dsimp only at *
        subst ei ej
        exact nput_ok k i j hi hj d l n a o hm A c hL hc hmx hn N hC (by omega)
theorem ntwice_nil (k : Int) : Calls Try.prog 35 #[.pointer none, .int .i64 k] w fun e w' => e = .returned (.int .i64 2) ∧ w = w' := by
  go_enter Try.func35, Try.ntmps35
  go_wp2_with fail
  go_ret
  exact ⟨rfl, rfl⟩
theorem ntwice_none (k : Int) (A1 : Option Addr) (n1 c1 : Nat) (hB : Blk w h 82 (netA (.slice A1 n1 c1) C)) (hk : decide (0 ≤ k ∧ k < (n1 : Int)) = false) :
    Calls Try.prog 35 #[.pointer (some ⟨h, 0, none⟩), .int .i64 k] w fun e w' => e = .returned (.int .i64 4) ∧ w = w' := by
  have C1 := Lib.hid (nthere h A1 n1 c1 C k false hk w hB)
  clear hB hk
  go_enter Try.func35, Try.ntmps35
  go_wp2_with (go_at_call 61; (with_reducible refine C1.out.mono ?_); rintro r w1 ⟨rfl, rfl⟩)
  go_ret
  exact ⟨rfl, rfl⟩
theorem ntwice_full (k : Int) (A1 : Option Addr) (n1 c1 : Nat) (hB : Blk w h 82 (netA (.slice A1 n1 c1) C)) (hk : decide (0 ≤ k ∧ k < (n1 : Int)) = true) (hn : (128 : Int) ≤ (n1 : Int)) :
    Calls Try.prog 35 #[.pointer (some ⟨h, 0, none⟩), .int .i64 k] w fun e w' => e = .returned (.int .i64 7) ∧ w = w' := by
  have C1 := Lib.hid (nthere h A1 n1 c1 C k true hk w hB)
  obtain ⟨q, -⟩ := hB.rules
  have q0 : w.cell? ⟨h, 0, none⟩ = some (.slice A1 n1 c1) := q 0
  have l0 := hB.lt
  have d1 : decide ((128 : Int) ≤ (n1 : Int)) = true := decide_eq_true hn
  clear hB hk q
  go_enter Try.func35, Try.ntmps35
  go_wp2_with (go_at_call 61; (with_reducible refine C1.out.mono ?_); rintro r w1 ⟨rfl, rfl⟩)
  go_ret
  exact ⟨rfl, rfl⟩
set_option maxHeartbeats 4000000 in
theorem ntwice_ok (k : Nat) (m : Ms) (hk : L[k]? = some m) (hn : m.l.length ≤ 100000) (N : Net w0 w bs h s X L C) (hX : X.length < 128) :
    Calls Try.prog 35 #[.pointer (some ⟨h, 0, none⟩), .int .i64 (k : Int)] w fun e w' => e = .returned (.int .i64 0) ∧ NetTo w0 w w' bs h s X (L ++ [m]) C := by
  obtain ⟨x, hx, eq, ox, om⟩ := N.evs.get hk
  have hkX : k < X.length := (List.getElem?_eq_some_iff.1 hx).1
  obtain ⟨A1, c1, rfl, hc1, hm1, hrd⟩ := own_open N.own
  obtain ⟨Ax, cx, ex, hcx, hmx, hrx⟩ := own_open ox
  rw [ex] at eq
  subst eq
  clear ex
  dsimp only at ox
  have C1 := Lib.hid (nthere h A1 X.length c1 C (k : Int) true (decide_eq_true ⟨by omega, by omega⟩) w N.blk)
  have C2 := Lib.hid fun (W : World) (hW : Below w.heap.size w W) => nown m Ax cx W ((hrx.below hW).mono hW.size) hn
  have OK := Lib.hid om
  obtain ⟨bx, o1, rfl, hbx, y0, y1, y2, y3, y4, y5, y6, y7, y8, y9, y10, y11⟩ := MRows.at_ hrd hx
  clear hrd hrx om
  have HX := Lib.hid hx
  clear hx hk
  have a1 : (0 : Int) ≤ (k : Int) := by omega
  have a2 : (k : Int) < (X.length : Int) := by omega
  have d1 : decide ((128 : Int) ≤ (X.length : Int)) = false := decide_eq_false (by omega)
  obtain ⟨q0, f0, -⟩ := N.T.rules
  obtain ⟨l0, -⟩ := N.T.lts
  have x0 : w.cell? ⟨h, 0, none⟩ = some (.slice (some ⟨bx, o1, none⟩) X.length c1) := q0 0
  clear q0
  go_enter Try.func35, Try.ntmps35
  go_upto_region 7 with (go_at_call 61; (with_reducible refine C1.out.mono ?_); rintro r w1 ⟨rfl, rfl⟩)
  go_region_law (first
    | (refine step_call rfl 60 #[.agg (mcA ⟨m.k, m.f, m.t, m.d, .slice Ax m.l.length cx, m.n, m.a⟩)] (by simp [execOp, go_sem] <;> rfl) (C2.out _ (Below.refl _ _).drew) ?_
       rintro e w4 ⟨u, rfl, own, hb⟩
       refine ⟨_, rfl, ?_⟩
       have N4 := N.drew.call hb
       have B4 := ((Below.refl w.heap.size w).drew).trans hb
       have z9 : w4.cell? ⟨h, 0, none⟩ = some (.slice (some ⟨bx, o1, none⟩) X.length c1) := N4.T.rules.1 0
       have m0 := N4.T.lt)
    | (refine step_append_mc rfl (.tmp 24) (.tmp 33) rfl w0.heap.size _ X ⟨m.k, m.f, m.t, m.d, u, m.n, m.a⟩ ?sl rfl (N4.own.alloc _) w4.heap.size rfl (Blk.new_at rfl rfl) (by omega) (Nat.le_trans N4.T.below.size (by simp)) ?_
       case sl => (obtain ⟨A9, c9, e9, -⟩ := own_open own; exact ⟨A9, _, c9, e9⟩)
       intro v' w5 hown' hb' hg' hf'
       obtain ⟨A5, c5, e5, -⟩ := own_open hown'
       obtain rfl : v' = .slice A5 (X.length + 1) c5 := by rw [e5, List.length_append]; rfl
       clear e5
       have z0 : w5.cell? ⟨h, 0, none⟩ = some (.slice (some ⟨bx, o1, none⟩) X.length c1) := hg'.cell (a := ⟨h, 0, none⟩) (v := .slice (some ⟨bx, o1, none⟩) X.length c1) ((N4.blk.alloc _).rules.1 0) (fun e => N4.s_ne e.symm)
       have z1 : w5.frozen? ⟨h, 0, none⟩ = false := by rw [World.frozen?_of_block (hg'.block h (Nat.lt_of_lt_of_le m0 (by simp)) (fun e => N4.s_ne e.symm))]; exact ((N4.blk.alloc _).rules).2 0))
  all_goals
    have R := net_put (m := m) N4 B4 own (Nat.le_trans N.T.below.size (Nat.le_refl _)) (Nat.le_refl _) OK.out _ hg' hown' hf'
    clear N4 B4 N own hb' hg' hown' hf' m0 z0 z1 z9 x0 f0 l0 hb
    generalize (World.setCell _ _ _) = w6 at R ⊢
    go_wp2_with fail
    go_ret
    exact ⟨rfl, R⟩
end
end Go.Proofs.Ytnhjphmcdamoaaa
