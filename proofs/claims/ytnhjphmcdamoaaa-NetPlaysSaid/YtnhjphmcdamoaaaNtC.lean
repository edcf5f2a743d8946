/-
  The walks of package net: Drop; of leatlaw23: one, works.
-/
import Derived.Test.YtnhjphmcdamoaaaNtB
import Derived.Test.YtnhjphmcdamoaaaMs
namespace Go.Proofs.Ytnhjphmcdamoaaa
set_option linter.unusedVariables false
set_option linter.unusedSimpArgs false
open Go.RowKit Go
set_option maxRecDepth 100000

section
variable {w0 w w' w'' : World} {bs : List (Nat × TypeId × Array Value)} {h : Nat} {s : Value} {X : List Mc} {L L' : List Ms} {C C' : Nat → Bool}
theorem NetTo.call (N : NetTo w0 w w' bs h s X L' C') (b : Below w'.heap.size w' w'') : NetTo w0 w w'' bs h s X L' C' := by
  obtain ⟨s', X', n, f, r⟩ := N
  exact ⟨s', X', n.call b, f.low (b.mono f.size), r⟩
theorem NetTo.below (N : NetTo w0 w w' bs h s X L' C') (b : Below w0.heap.size w0 w) : Below w0.heap.size w0 w' := by
  obtain ⟨s', X', n, f, r⟩ := N
  exact n.T.below
theorem ndrop_nil (k : Int) : Calls Try.prog 44 #[.pointer none, .int .i64 k] w fun e w' => e = .returned (.bool false) ∧ Below w.heap.size w w' := by
  have C1 := Lib.hid (fun W : World => ntake_nil (w := W) k)
  go_enter Try.func44, Try.ntmps44
  go_wp2_with fail
  refine (C1.out _).mono ?_
  rintro r w1 ⟨rfl, hb⟩
  go_wp2_with fail
  go_ret
  exact ⟨rfl, hb.alloc hb.size _⟩
theorem ndrop_none (k : Int) (A1 : Option Addr) (n1 c1 : Nat) (hB : Blk w h 82 (netA (.slice A1 n1 c1) C)) (hk : decide (0 ≤ k ∧ k < (n1 : Int)) = false) :
    Calls Try.prog 44 #[.pointer (some ⟨h, 0, none⟩), .int .i64 k] w fun e w' => e = .returned (.bool false) ∧ Below w.heap.size w w' := by
  have C1 := Lib.hid (ntake_none k A1 n1 c1 hB hk)
  clear hB hk
  go_enter Try.func44, Try.ntmps44
  go_wp2_with fail
  refine C1.out.mono ?_
  rintro r w1 ⟨rfl, hb⟩
  go_wp2_with fail
  go_ret
  exact ⟨rfl, hb.alloc hb.size _⟩
theorem ndrop_ok (k : Nat) (m : Ms) (hk : L[k]? = some m) (N : Net w0 w bs h s X L C) :
    Calls Try.prog 44 #[.pointer (some ⟨h, 0, none⟩), .int .i64 (k : Int)] w fun e w' => e = .returned (.bool true) ∧ NetTo w0 w w' bs h s X (L.eraseIdx k) C := by
  have C1 := Lib.hid (ntake_ok k m hk N)
  clear hk N
  go_enter Try.func44, Try.ntmps44
  go_wp2_with fail
  refine C1.out.mono ?_
  rintro r w1 ⟨u, rfl, own, R⟩
  obtain ⟨A, c, rfl, -⟩ := own_open own
  clear own C1
  go_wp2_with fail
  go_ret
  exact ⟨rfl, R.call ((Below.refl _ _).alloc (Nat.le_refl _) _)⟩
end
theorem nlenB {w : World} {h : Nat} {C : Nat → Bool} (A : Option Addr) (n c : Nat) (hB : Blk w h 82 (netA (.slice A n c) C)) : Calls Try.prog 34 #[.pointer (some ⟨h, 0, none⟩)] w fun e w' => e = .returned (.int .i64 n) ∧ Below w.heap.size w w' :=
  (nlen h A n c C w hB).mono fun _ _ h => ⟨h.1, by rw [← h.2]; exact Below.refl _ _⟩
/-- The message of the statements' own. -/
def oneMs : Ms := ⟨2, 1, 2, Vec.zero, [], 9, 3⟩
theorem oneMs_ok : oneMs.ok := ⟨by decide, by decide, by decide, Vec.ok_zero, (fun e he => by cases he), by decide, by decide⟩
theorem oneMs_may : mmayB oneMs = true := by decide +kernel
theorem erows_none (w : World) (B : Nat) : ERows w B none [] := Rd.nil
theorem none23 (w : World) : Calls Try.prog 32 #[] w fun r w' => r = .returned (.agg (mcA ⟨2, 1, 2, Vec.zero, .slice none 0 0, 9, 3⟩)) ∧ Below w.heap.size w w' := by
  go_enter Try.func32, Try.ntmps32
  go_wp2_with fail
  have T0 : Trk w _ [(w.heap.size, 48, mcA ⟨2, 1, 2, Vec.zero, .slice none 0 0, 9, 3⟩)] := (Trk.nil w).push (t := 48) (cs := mcA ⟨2, 1, 2, Vec.zero, .slice none 0 0, 9, 3⟩) rfl
  refine bodyPost_ret (v := .agg (mcA ⟨2, 1, 2, Vec.zero, .slice none 0 0, 9, 3⟩)) (results_msg (s := 0) (by kernel_rfl) _ w.heap.size _ _ rfl (T0.blk _ _ _ List.mem_cons_self)) rfl ⟨rfl, T0.below⟩
/-- A net on which nothing is under way. -/
theorem Net.new (w : World) : Net w (w.alloc (.cells (netA (.slice none 0 0) fun _ => false) 82)) [] w.heap.size (.slice none 0 0) [] [] fun _ => false :=
  ⟨(Trk.nil w).push (t := 82) (cs := netA (.slice none 0 0) fun _ => false) rfl, Nat.le_refl _, trivial, trivial, (fun _ _ _ hm => by cases hm), World.ownsRow_nil _ _ _ _, trivial⟩
theorem nput_one {w0 w : World} {bs : List (Nat × TypeId × Array Value)} {h : Nat} {s : Value} {X : List Mc} {L : List Ms} {C : Nat → Bool} (N : Net w0 w bs h s X L C) :
    Calls Try.prog 33 #[.pointer (some ⟨h, 0, none⟩), .agg (mcA ⟨2, 1, 2, Vec.zero, .slice none 0 0, 9, 3⟩)] w fun e w' => e = .returned (.int .i64 (putC L C oneMs)) ∧ NetTo w0 w w' bs h s X (putL L C oneMs) C :=
  nput oneMs oneMs_ok none 0 (erows_none w _) (Nat.le_refl _) (by decide) (by decide) N
theorem zeroMs_may : mmayB Ms.zero = false := by decide +kernel
theorem zeroMs_ok : Ms.zero.ok := ⟨by decide, by decide, by decide, Vec.ok_zero, (fun e he => by cases he), by decide, by decide⟩
set_option maxHeartbeats 4000000 in
theorem works23 (w : World) : Calls Try.prog 38 #[] w fun r w' => r = .returned (.bool true) ∧ Below w.heap.size w w' := by
  go_enter Try.func38, Try.ntmps38
  go_wp2_with fail
  refine (nnew _).mono ?_
  rintro r w1 ⟨rfl, rfl⟩
  have N := Net.new w
  generalize w.alloc _ = w1 at N ⊢
  go_wp2_with fail
  refine (none23 _).mono ?_
  rintro r w2 ⟨rfl, hb⟩
  replace N := N.call hb
  clear hb
  go_wp2_with fail
  refine (nput_one N).mono ?_
  rintro r w3 ⟨rfl, s1, X1, N1, -⟩
  rw [show putC [] (fun _ => false) oneMs = 0 by decide +kernel]
  rw [show putL [] (fun _ => false) oneMs = [oneMs] by decide +kernel] at N1
  have hx1 : X1.length = 1 := N1.evs.len
  have t1 : Calls Try.prog 35 #[.pointer (some ⟨w.heap.size, 0, none⟩), .int .i64 0] w3 fun e w' => e = .returned (.int .i64 0) ∧ NetTo w w3 w' [] w.heap.size s1 X1 [oneMs, oneMs] fun _ => false := ntwice_ok 0 oneMs rfl (by decide) N1 (by omega)
  clear N hx1
  have T1 := Lib.hid t1
  clear t1 N1
  go_wp2_with fail
  refine T1.out.mono ?_
  rintro r w4 ⟨rfl, s2, X2, N2, -⟩
  have t2 : Calls Try.prog 39 #[.pointer (some ⟨w.heap.size, 0, none⟩), .int .i64 1] w4 fun e w' => ∃ u, e = .returned (.tuple #[.agg (mcA ⟨2, 1, 2, Vec.zero, u, 9, 3⟩), .bool true]) ∧ w'.ownsRow w.heap.size 68 14 u 0 (ecells []) ∧ NetTo w w4 w' [] w.heap.size s2 X2 [oneMs] fun _ => false := ntake_ok 1 oneMs rfl N2
  have T2 := Lib.hid t2
  clear t2 N2 T1
  go_wp2_with fail
  refine T2.out.mono ?_
  rintro r w5 ⟨u, rfl, own, s3, X3, N3, -⟩
  obtain ⟨A, c, rfl, hc, hmx, -⟩ := own_open own
  clear own T2
  go_wp2_with fail
  have N4 : Net w _ [(w5.heap.size, 48, mcA ⟨2, 1, 2, Vec.zero, .slice A 0 c, 9, 3⟩)] w.heap.size s3 X3 [oneMs] fun _ => false := N3.push (t := 48) (cs := mcA ⟨2, 1, 2, Vec.zero, .slice A 0 c, 9, 3⟩) rfl
  clear N3
  generalize w5.alloc _ = w6 at N4 ⊢
  have t3 : Calls Try.prog 36 #[.pointer (some ⟨w.heap.size, 0, none⟩), .int .i64 2, .int .i64 1] w6 fun e w' => e = .returned (.int .i64 0) ∧ Net w w' [(w5.heap.size, 48, mcA ⟨2, 1, 2, Vec.zero, .slice A 0 c, 9, 3⟩)] w.heap.size s3 X3 [oneMs] (cutSet (cutSet (fun _ => false) 6 true) 1 true) ∧ Fr w6 w' w.heap.size none := ncutN N4 1 0 (by decide) (by decide) (by decide)
  refine t3.mono ?_
  clear t3 N4
  rintro r w7 ⟨rfl, N, -⟩
  go_wp2_with fail
  refine (none23 _).mono ?_
  rintro r w8 ⟨rfl, hb⟩
  replace N := N.call hb
  clear hb
  go_wp2_with fail
  refine (nput_one N).mono ?_
  clear N
  rintro r w9 ⟨rfl, s4, X4, N, -⟩
  rw [show putC [oneMs] (cutSet (cutSet (fun _ => false) 6 true) 1 true) oneMs = 0 by decide +kernel]
  rw [show putL [oneMs] (cutSet (cutSet (fun _ => false) 6 true) 1 true) oneMs = [oneMs] by decide +kernel] at N
  have hx4 : X4.length = 1 := N.evs.len
  obtain ⟨A4, c4, rfl, -⟩ := own_open N.own
  rw [hx4] at N
  obtain ⟨q0, f0, q1, f1, -⟩ := N.T.rules
  obtain ⟨l0, l1, -⟩ := N.T.lts
  have cs : ∀ x : Later w9, Calls Try.prog 43 #[.agg (mcA ⟨2, 1, 2, Vec.zero, .slice A 0 c, 9, 3⟩), .agg (mcA ⟨2, 1, 2, Vec.zero, .slice none 0 0, 9, 3⟩)] x.w fun r w' => r = .returned (.bool true) ∧ Below x.w.heap.size x.w w' := fun x => by
    have h := rsame20 oneMs oneMs A none c 0 x.w ⟨rfl, fun h => absurd h (by decide)⟩ (erows_none x.w _) (Nat.zero_le _) hmx (Nat.le_refl _) (by decide)
    rw [show decide (oneMs = oneMs) = true from by simp] at h
    exact h
  have CS := Lib.hid cs
  clear cs
  have C1 := Lib.hid fun (x : Later w9) => none23 x.w
  have CL := Lib.hid fun (x : Later w9) => nlenB A4 1 c4 (N.blk.below x.below N.T.lt)
  have cp : ∀ x : Later w9, Calls Try.prog 33 #[.pointer (some ⟨w.heap.size, 0, none⟩), .agg (mcA Mc.zero)] x.w fun r w' => r = .returned (.int .i64 1) ∧ Below x.w.heap.size x.w w' := fun x => nput_not Ms.zero zeroMs_ok zeroMs_may none 0 (erows_none x.w _) (Nat.le_refl _) (by decide) (N.blk.below x.below N.T.lt)
  have CP := Lib.hid cp
  clear cp
  clear q0 f0 hx4
  go_wp2_with fail
  refine wp_region_later (by kernel_rfl) (by kernel_rfl) ?_
  repeat (go_big_quiet_step (first | (go_at_call 32; with_reducible exact Calls.later (C1.out _)) | (go_at_call 43; with_reducible exact Calls.later (CS.out _)) | (go_at_call 34; with_reducible exact Calls.later (CL.out _)) | (go_at_call 33; with_reducible exact Calls.later (CP.out _))))
  refine wpQuiet_nil ?_
  rintro w10 ⟨x, rfl⟩
  have T3 := N.T.call x.below
  generalize x.w = w10 at T3
  clear N CS C1 CL CP
  go_wp2_with fail
  go_ret
  exact ⟨rfl, T3.below⟩
end Go.Proofs.Ytnhjphmcdamoaaa
