/-
  The walk of package net: Put, of a message that may be.
-/
import Derived.Test.YtnhjphmcdamoaaaNt7
namespace Go.Proofs.Ytnhjphmcdamoaaa
set_option linter.unusedVariables false
set_option linter.unusedSimpArgs false
open Go.RowKit Go
set_option maxRecDepth 100000

section
variable {w0 w : World} {bs : List (Nat × TypeId × Array Value)} {h : Nat} {s : Value} {X : List Mc} {L : List Ms} {C : Nat → Bool}
set_option maxHeartbeats 2000000 in
theorem nput_cut (k : Int) (i j : Nat) (hi : i < 6) (hj : j < 6) (d : Vec) (l : List Ev) (n a : Int) (o : (⟨k, (i : Int) + 1, (j : Int) + 1, d, l, n, a⟩ : Ms).ok) (hm : mmayB ⟨k, (i : Int) + 1, (j : Int) + 1, d, l, n, a⟩ = true) (A : Option Addr) (c : Nat) (hL : ERows w w.heap.size A l) (hc : l.length ≤ c) (hmx : c ≤ maxLen)
    (hB : Blk w h 82 (netA s C)) (hC : C (i * 6 + j) = true) :
    Calls Try.prog 33 #[.pointer (some ⟨h, 0, none⟩), .agg (mcA ⟨k, (i : Int) + 1, (j : Int) + 1, d, .slice A l.length c, n, a⟩)] w fun e w' => e = .returned (.int .i64 0) ∧ Below w.heap.size w w' := by
  have C1 := Lib.hid fun (W : World) (hW : Below w.heap.size w W) => mmay' ⟨k, (i : Int) + 1, (j : Int) + 1, d, l, n, a⟩ o true hm A c W ((hL.below hW).mono hW.size) hc hmx
  have HB := Lib.hid hB
  have hlt := hB.lt
  clear hL o hm hB
  dsimp only at C1
  have a1 : (0 : Int) ≤ (i : Int) := by omega
  have a2 : (i : Int) < 6 := by omega
  have a3 : (0 : Int) ≤ (j : Int) := by omega
  have a4 : (j : Int) < 6 := by omega
  go_enter Try.func33, Try.ntmps33
  go_wp2_with fail
  have T0 : Trk w _ [(w.heap.size, 48, mcA ⟨k, (i : Int) + 1, (j : Int) + 1, d, .slice A l.length c, n, a⟩)] := (Trk.nil w).push (t := 48) (cs := mcA ⟨k, (i : Int) + 1, (j : Int) + 1, d, .slice A l.length c, n, a⟩) rfl
  refine (C1.out _ T0.below).mono ?_
  rintro r w2 ⟨rfl, hb⟩
  have T2 := T0.call hb
  have hb2 : Blk w2 h 82 (netA s C) := (T2.below.block h hlt).trans HB.out
  clear T0 hb
  obtain ⟨q1, f1, -⟩ := T2.rules
  obtain ⟨l1, -⟩ := T2.lts
  obtain ⟨q0, f0⟩ := hb2.rules
  have l0 := hb2.lt
  have g1 := netA_get s C (i * 6 + j) (by omega)
  rw [← Nat.add_assoc, hC] at g1
  have x1 : w2.cell? ⟨h, 1 + i * 6 + j, none⟩ = some (.bool true) := by rw [q0]; exact g1
  clear g1 q0 HB hb2
  go_upto_region 5 with fail
  go_region
  go_wp2_with fail
  go_ret
  exact ⟨rfl, T2.drew.below⟩
set_option maxHeartbeats 2000000 in
theorem nput_full (k : Int) (i j : Nat) (hi : i < 6) (hj : j < 6) (d : Vec) (l : List Ev) (n a : Int) (o : (⟨k, (i : Int) + 1, (j : Int) + 1, d, l, n, a⟩ : Ms).ok) (hm : mmayB ⟨k, (i : Int) + 1, (j : Int) + 1, d, l, n, a⟩ = true) (A : Option Addr) (c : Nat) (hL : ERows w w.heap.size A l) (hc : l.length ≤ c) (hmx : c ≤ maxLen)
    (A1 : Option Addr) (n1 c1 : Nat) (hB : Blk w h 82 (netA (.slice A1 n1 c1) C)) (hC : C (i * 6 + j) = false) (hn : (128 : Int) ≤ (n1 : Int)) :
    Calls Try.prog 33 #[.pointer (some ⟨h, 0, none⟩), .agg (mcA ⟨k, (i : Int) + 1, (j : Int) + 1, d, .slice A l.length c, n, a⟩)] w fun e w' => e = .returned (.int .i64 7) ∧ Below w.heap.size w w' := by
  have C1 := Lib.hid fun (W : World) (hW : Below w.heap.size w W) => mmay' ⟨k, (i : Int) + 1, (j : Int) + 1, d, l, n, a⟩ o true hm A c W ((hL.below hW).mono hW.size) hc hmx
  have HB := Lib.hid hB
  have hlt := hB.lt
  clear hL o hm hB
  dsimp only at C1
  have a1 : (0 : Int) ≤ (i : Int) := by omega
  have a2 : (i : Int) < 6 := by omega
  have a3 : (0 : Int) ≤ (j : Int) := by omega
  have a4 : (j : Int) < 6 := by omega
  have d1 : decide ((128 : Int) ≤ (n1 : Int)) = true := decide_eq_true hn
  go_enter Try.func33, Try.ntmps33
  go_wp2_with fail
  have T0 : Trk w _ [(w.heap.size, 48, mcA ⟨k, (i : Int) + 1, (j : Int) + 1, d, .slice A l.length c, n, a⟩)] := (Trk.nil w).push (t := 48) (cs := mcA ⟨k, (i : Int) + 1, (j : Int) + 1, d, .slice A l.length c, n, a⟩) rfl
  refine (C1.out _ T0.below).mono ?_
  rintro r w2 ⟨rfl, hb⟩
  have T2 := T0.call hb
  have hb2 : Blk w2 h 82 (netA (.slice A1 n1 c1) C) := (T2.below.block h hlt).trans HB.out
  clear T0 hb
  obtain ⟨q1, f1, -⟩ := T2.rules
  obtain ⟨l1, -⟩ := T2.lts
  obtain ⟨q0, f0⟩ := hb2.rules
  have l0 := hb2.lt
  have g1 := netA_get (.slice A1 n1 c1) C (i * 6 + j) (by omega)
  rw [← Nat.add_assoc, hC] at g1
  have x1 : w2.cell? ⟨h, 1 + i * 6 + j, none⟩ = some (.bool false) := by rw [q0]; exact g1
  have x0 : w2.cell? ⟨h, 0, none⟩ = some (.slice A1 n1 c1) := by rw [q0]; rfl
  clear g1 q0 HB hb2
  go_upto_region 5 with fail
  go_region
  go_wp2_with fail
  go_ret
  exact ⟨rfl, T2.drew.below⟩
set_option maxHeartbeats 4000000 in
theorem nput_ok (k : Int) (i j : Nat) (hi : i < 6) (hj : j < 6) (d : Vec) (l : List Ev) (n a : Int) (o : (⟨k, (i : Int) + 1, (j : Int) + 1, d, l, n, a⟩ : Ms).ok) (hm : mmayB ⟨k, (i : Int) + 1, (j : Int) + 1, d, l, n, a⟩ = true) (A : Option Addr) (c : Nat) (hL : ERows w w.heap.size A l) (hc : l.length ≤ c) (hmx : c ≤ maxLen) (hn : l.length ≤ 100000)
    (N : Net w0 w bs h s X L C) (hC : C (i * 6 + j) = false) (hX : X.length < 128) :
    Calls Try.prog 33 #[.pointer (some ⟨h, 0, none⟩), .agg (mcA ⟨k, (i : Int) + 1, (j : Int) + 1, d, .slice A l.length c, n, a⟩)] w fun e w' => e = .returned (.int .i64 0) ∧ NetTo w0 w w' bs h s X (L ++ [⟨k, (i : Int) + 1, (j : Int) + 1, d, l, n, a⟩]) C := by
  have C1 := Lib.hid fun (W : World) (hW : Below w.heap.size w W) => mmay' ⟨k, (i : Int) + 1, (j : Int) + 1, d, l, n, a⟩ o true hm A c W ((hL.below hW).mono hW.size) hc hmx
  have C2 := Lib.hid fun (W : World) (hW : Below w.heap.size w W) => nown ⟨k, (i : Int) + 1, (j : Int) + 1, d, l, n, a⟩ A c W ((hL.below hW).mono hW.size) hn
  have OK := Lib.hid o
  clear hL o hm
  dsimp only at C1 C2
  obtain ⟨A1, c1, rfl, -⟩ := own_open N.own
  have a1 : (0 : Int) ≤ (i : Int) := by omega
  have a2 : (i : Int) < 6 := by omega
  have a3 : (0 : Int) ≤ (j : Int) := by omega
  have a4 : (j : Int) < 6 := by omega
  have d1 : decide ((128 : Int) ≤ (X.length : Int)) = false := decide_eq_false (by omega)
  go_enter Try.func33, Try.ntmps33
  go_wp2_with fail
  have N0 : Net w0 _ ((w.heap.size, 48, mcA ⟨k, (i : Int) + 1, (j : Int) + 1, d, .slice A l.length c, n, a⟩) :: bs) h (.slice A1 X.length c1) X L C := N.push (t := 48) (cs := mcA ⟨k, (i : Int) + 1, (j : Int) + 1, d, .slice A l.length c, n, a⟩) rfl
  have B0 : Below w.heap.size w _ := (Below.refl w.heap.size w).alloc (Nat.le_refl _) (.cells (mcA ⟨k, (i : Int) + 1, (j : Int) + 1, d, .slice A l.length c, n, a⟩) 48 (0, 0))
  refine (C1.out _ B0).mono ?_
  rintro r w2 ⟨rfl, hb⟩
  have N2 := N0.call hb
  have B2 := B0.trans (hb.mono (by simp))
  clear N0 B0 hb
  obtain ⟨q0, f0, q1, f1, -⟩ := N2.T.rules
  obtain ⟨l0, l1, -⟩ := N2.T.lts
  have g1 := netA_get (.slice A1 X.length c1) C (i * 6 + j) (by omega)
  rw [← Nat.add_assoc, hC] at g1
  have x1 : w2.cell? ⟨h, 1 + i * 6 + j, none⟩ = some (.bool false) := by rw [← g1]; exact q0 _
  have x0 : w2.cell? ⟨h, 0, none⟩ = some (.slice A1 X.length c1) := q0 0
  clear g1 q0
  go_upto_region 5 with fail
  go_region
  go_upto_region 9 with fail
  have N3 := N2.drew
  have B3 := B2.drew
  clear N2 B2 f0 q1 f1 l0 l1 x1 x0 N
  generalize w2.drew = w3 at N3 B3 ⊢
  obtain ⟨q0, f0, q1, f1, -⟩ := N3.T.rules
  obtain ⟨l0, l1, -⟩ := N3.T.lts
  have x0 : w3.cell? ⟨h, 0, none⟩ = some (.slice A1 X.length c1) := q0 0
  clear q0
  go_region_law (first
    | (refine step_call rfl 60 #[.agg (mcA ⟨k, (i : Int) + 1, (j : Int) + 1, d, .slice A l.length c, n, a⟩)] (by simp [execOp, go_sem] <;> rfl) (C2.out _ B3.drew) ?_
       rintro e w4 ⟨u, rfl, own, hb⟩
       refine ⟨_, rfl, ?_⟩
       have N4 := N3.drew.call hb
       have B4 := B3.drew.trans (hb.mono B3.size)
       have y0 : w4.cell? ⟨h, 0, none⟩ = some (.slice A1 X.length c1) := N4.T.rules.1 0
       have m0 := N4.T.lt)
    | (refine step_append_mc rfl (.tmp 36) (.tmp 39) rfl w0.heap.size _ X ⟨k, (i : Int) + 1, (j : Int) + 1, d, u, n, a⟩ ?sl rfl (N4.own.alloc _) w4.heap.size rfl (Blk.new_at rfl rfl) (by omega) (Nat.le_trans N4.T.below.size (by simp)) ?_
       case sl => (obtain ⟨A9, c9, e9, -⟩ := own_open own; exact ⟨A9, _, c9, e9⟩)
       intro v' w5 hown' hb' hg' hf'
       obtain ⟨A5, c5, e5, -⟩ := own_open hown'
       obtain rfl : v' = .slice A5 (X.length + 1) c5 := by rw [e5, List.length_append]; rfl
       clear e5
       have z0 : w5.cell? ⟨h, 0, none⟩ = some (.slice A1 X.length c1) := hg'.cell (a := ⟨h, 0, none⟩) (v := .slice A1 X.length c1) ((N4.blk.alloc _).rules.1 0) (fun e => N4.s_ne e.symm)
       have z1 : w5.frozen? ⟨h, 0, none⟩ = false := by rw [World.frozen?_of_block (hg'.block h (Nat.lt_of_lt_of_le m0 (by simp)) (fun e => N4.s_ne e.symm))]; exact ((N4.blk.alloc _).rules).2 0))
  all_goals
    have R := (net_put (m := ⟨k, (i : Int) + 1, (j : Int) + 1, d, l, n, a⟩) N4 B4 own (Nat.le_trans N3.T.below.size (Nat.le_refl _)) B3.size OK.out _ hg' hown' hf').drop
    clear N4 B4 N3 B3 own hb' hg' hown' hf' y0 m0 z0 z1 x0 q1 f0 f1 l0 l1 hb
    generalize (World.setCell _ _ _) = w6 at R ⊢
    go_wp2_with fail
    go_ret
    exact ⟨rfl, R⟩
end
end Go.Proofs.Ytnhjphmcdamoaaa
