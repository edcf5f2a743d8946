/-
  The walk of VectorLattice.
-/
import Derived.Test.YtlbdlmgcblmeeaaVecW
namespace Go.Proofs.Ytlbdlmgcblmeeaa
open Go.RowKit

set_option maxHeartbeats 4000000 in
set_option maxRecDepth 100000 in
theorem lattice_law (a b c : Vec) (oa : a.ok) (ob : b.ok) (w : World) : Calls Try.prog 4 #[.agg (vecA a), .agg (vecA b), .agg (vecA c)] w fun e w' => e = .returned (.bool true) ∧ Below w.heap.size w w' := by
  have c1 := fun g h => vjoin2 g a b _ (rfl : _ = Vec.map2 max a b) h
  have c2 := fun g h => vmeet2 g a b _ (rfl : _ = Vec.map2 min a b) h
  have c3 := fun g h => vmeet2 g a (Vec.map2 max a b) a (Vec.meet_join a b) h
  have c4 := fun g h => vjoin2 g a (Vec.map2 min a b) a (Vec.join_meet a b) h
  have c5 := fun g h => vjoin2 g b a _ (Vec.join_comm a b) h
  have c6 := fun g h => vmeet2 g b a _ (Vec.meet_comm a b) h
  have c7 := fun g h => vjoin2 g b c _ (rfl : _ = Vec.map2 max b c) h
  have c8 := fun g h => vmeet2 g a (Vec.map2 max b c) _ (rfl : _ = Vec.map2 min a (Vec.map2 max b c)) h
  have c9 := fun g h => vmeet2 g a c _ (rfl : _ = Vec.map2 min a c) h
  have c10 := fun g h => vjoin2 g (Vec.map2 min a b) (Vec.map2 min a c) _ (Vec.dist1 a b c) h
  have c11 := fun g h => vmeet2 g b c _ (rfl : _ = Vec.map2 min b c) h
  have c12 := fun g h => vjoin2 g a (Vec.map2 min b c) _ (rfl : _ = Vec.map2 max a (Vec.map2 min b c)) h
  have c13 := fun g h => vjoin2 g a c _ (rfl : _ = Vec.map2 max a c) h
  have c14 := fun g h => vmeet2 g (Vec.map2 max a b) (Vec.map2 max a c) _ (Vec.dist2 a b c) h
  have c15 := vlack_any a b oa ob
  have c16 := vlack_any b a ob oa
  have c17 := vlack' _ _ (Vec.ok_min oa ob) (Vec.ok_max oa ob) _ (lack_lattice a b oa ob 6 (Nat.le_refl _)).symm
  have c18 := vless a b
  have hj := Vec.join_eq_iff a b
  have hm := Vec.meet_eq_iff a b
  have hl := lack_less a b oa ob
  generalize Vec.map2 max a b = J at c1 c3 c5 c14 c17 hj
  generalize Vec.map2 min a b = M at c2 c4 c6 c10 c17 hm
  generalize Vec.map2 min a (Vec.map2 max b c) = X1 at c8 c10
  generalize Vec.map2 max b c = X2 at c7 c8
  generalize Vec.map2 min a c = X3 at c9 c10
  generalize Vec.map2 max a (Vec.map2 min b c) = X4 at c12 c14
  generalize Vec.map2 min b c = X5 at c11 c12
  generalize Vec.map2 max a c = X6 at c13 c14
  have hw : IntKind.u64.wrap (vlack a b + vlack b a) = (lackSum a b 6 + lackSum b a 6) % 18446744073709551616 := by rw [IntKind.wrap_u64]; rfl
  generalize (lackSum a b 6 + lackSum b a 6) % 18446744073709551616 = n at c17 hw
  generalize vlack a b = p at c15 hw
  generalize vlack b a = q at c16 hw hl
  generalize vlessB a b = L at c18 hj hm hl
  have C1 := Lib.hid c1
  have C2 := Lib.hid c2
  have C3 := Lib.hid c3
  have C4 := Lib.hid c4
  have C5 := Lib.hid c5
  have C6 := Lib.hid c6
  have C7 := Lib.hid c7
  have C8 := Lib.hid c8
  have C9 := Lib.hid c9
  have C10 := Lib.hid c10
  have C11 := Lib.hid c11
  have C12 := Lib.hid c12
  have C13 := Lib.hid c13
  have C14 := Lib.hid c14
  have C15 := Lib.hid c15
  have C16 := Lib.hid c16
  have C17 := Lib.hid c17
  have C18 := Lib.hid c18
  have HL := Lib.hid hl
  clear c1 c2 c3 c4 c5 c6 c7 c8 c9 c10 c11 c12 c13 c14 c15 c16 c17 c18 hl oa ob
  go_enter Try.func4, Try.ntmps4
  go_wp2_with fail
  have T0 : Trk w _ _ := (((Trk.nil w).push (t := 25) (cs := vecA a) rfl).push (t := 25) (cs := vecA b) (g := w.heap.size + 1) (by simp)).push (t := 25) (cs := vecA c) (g := w.heap.size + 2) (by simp)
  refine (Calls.trk (C1.out _ _ ?h) (T0.alloc _)).mono ?_
  (case h => exact Blk.new_at (by simp) rfl)
  rintro e w1 ⟨rfl, T1, r1, f1, r2, f2, r3, f3, -⟩
  have T2 := T1.push (t := 25) (cs := vecA J) rfl
  have hl1 := T1.lt
  obtain ⟨q1, -, q2, -, q3, -, q4, -⟩ := T2.rules
  clear T0 r1 f1 r2 f2 r3 f3
  go_wp2_with fail
  refine (Calls.trk (C2.out _ _ ?h) (T2.alloc _)).mono ?_
  (case h => exact Blk.new_at (by simp) rfl)
  rintro e w2 ⟨rfl, T3, -⟩
  have T4 := T3.push (t := 25) (cs := vecA M) rfl
  have hl2 := T3.lt
  obtain ⟨q0, -, q1, -, q2, -, q3, -, q4, -⟩ := T4.rules
  go_wp2_with fail
  refine lz_region [.is (.agg (vecA a)), .is (.agg (vecA J)), .two a J, .is (.agg (vecA a)), .is (.agg (vecA a)), .is (.bool false), .is (.bool false),
    .is (.agg (vecA a)), .is (.agg (vecA M)), .two a M, .is (.agg (vecA a)), .is (.agg (vecA a)), .is (.bool false), .is (.bool false), .is (.bool false),
    .is (.agg (vecA J)), .is (.agg (vecA b)), .is (.agg (vecA a)), .two b a, .is (.agg (vecA J)), .is (.bool false), .is (.bool false), .is (.bool false),
    .is (.agg (vecA M)), .is (.agg (vecA b)), .is (.agg (vecA a)), .two b a, .is (.agg (vecA M)), .is (.bool false), .is (.bool false)] T4 (by kernel_rfl) ?_
  repeat
    first
      | refine lz_load rfl _ rfl _ _ rfl rfl (by simp) ?_
      | refine lz_move rfl _ rfl _ rfl rfl ?_
      | (refine lz_two rfl _ _ rfl _ _ rfl rfl rfl ?_; intro z)
      | refine lz_neq rfl _ _ _ rfl _ rfl rfl rfl ?_
      | refine lz_pick rfl _ _ _ rfl rfl _ rfl rfl ?_
      | refine lz_call rfl _ (.tmp 19) _ _ rfl (by rfl) (Or.inl ⟨rfl, rfl⟩) _ _ rfl _ rfl run_meet C3.out ?_
      | refine lz_call rfl _ (.tmp 26) _ _ rfl (by rfl) (Or.inl ⟨rfl, rfl⟩) _ _ rfl _ rfl run_join C4.out ?_
      | refine lz_call rfl _ (.tmp 35) _ _ rfl (by rfl) (Or.inl ⟨rfl, rfl⟩) _ _ rfl _ rfl run_join C5.out ?_
      | refine lz_call rfl _ (.tmp 43) _ _ rfl (by rfl) (Or.inl ⟨rfl, rfl⟩) _ _ rfl _ rfl run_meet C6.out ?_
    simp only [Act.put, List.setIfInBounds_toArray, List.set_cons_succ, List.set_cons_zero]
  intro w3 T5
  clear q0 q1 q2 q3 q4 T1 T2 T3 T4
  obtain ⟨q0, -, q1, -, q2, -, q3, -, q4, -⟩ := T5.rules
  go_wp2_with fail
  refine lz_region [.is (.agg (vecA a)), .is (.agg (vecA b)), .is (.agg (vecA c)), .two b c, .is (.agg (vecA X2)), .two a X2, .is (.agg (vecA X1)), .is (.agg (vecA M)), .is (.agg (vecA a)), .is (.agg (vecA c)), .two a c, .is (.agg (vecA X3)), .two M X3, .is (.agg (vecA X1)), .is (.bool false), .is (.bool false), .is (.agg (vecA a)), .is (.agg (vecA b)), .is (.agg (vecA c)), .two b c, .is (.agg (vecA X5)), .two a X5, .is (.agg (vecA X4)), .is (.agg (vecA J)), .is (.agg (vecA a)), .is (.agg (vecA c)), .two a c, .is (.agg (vecA X6)), .two J X6, .is (.agg (vecA X4)), .is (.bool false), .is (.bool false)] T5 (by kernel_rfl) ?_
  repeat
    first
      | refine lz_load rfl _ rfl _ _ rfl rfl (by simp) ?_
      | refine lz_move rfl _ rfl _ rfl rfl ?_
      | (refine lz_two rfl _ _ rfl _ _ rfl rfl rfl ?_; intro z)
      | refine lz_neq rfl _ _ _ rfl _ rfl rfl rfl ?_
      | refine lz_pick rfl _ _ _ rfl rfl _ rfl rfl ?_
      | refine lz_call rfl _ (.tmp 50) _ _ rfl (by rfl) (Or.inl ⟨rfl, rfl⟩) _ _ rfl _ rfl run_join C7.out ?_
      | refine lz_call rfl _ (.tmp 52) _ _ rfl (by rfl) (Or.inl ⟨rfl, rfl⟩) _ _ rfl _ rfl run_meet C8.out ?_
      | refine lz_call rfl _ (.tmp 57) _ _ rfl (by rfl) (Or.inl ⟨rfl, rfl⟩) _ _ rfl _ rfl run_meet C9.out ?_
      | refine lz_call rfl _ (.tmp 59) _ _ rfl (by rfl) (Or.inl ⟨rfl, rfl⟩) _ _ rfl _ rfl run_join C10.out ?_
      | refine lz_call rfl _ (.tmp 66) _ _ rfl (by rfl) (Or.inl ⟨rfl, rfl⟩) _ _ rfl _ rfl run_meet C11.out ?_
      | refine lz_call rfl _ (.tmp 68) _ _ rfl (by rfl) (Or.inl ⟨rfl, rfl⟩) _ _ rfl _ rfl run_join C12.out ?_
      | refine lz_call rfl _ (.tmp 73) _ _ rfl (by rfl) (Or.inl ⟨rfl, rfl⟩) _ _ rfl _ rfl run_join C13.out ?_
      | refine lz_call rfl _ (.tmp 75) _ _ rfl (by rfl) (Or.inl ⟨rfl, rfl⟩) _ _ rfl _ rfl run_meet C14.out ?_
    simp only [Act.put, List.setIfInBounds_toArray, List.set_cons_succ, List.set_cons_zero]
  intro w4 T6
  clear q0 q1 q2 q3 q4 T5
  obtain ⟨q0, -, q1, -, q2, -, q3, -, q4, -⟩ := T6.rules
  obtain ⟨l0, l1, l2, l3, l4, -⟩ := T6.lts
  rcases (show L = false ∨ L = true from by cases L <;> simp) with rfl | rfl
  all_goals
    go_wp2_with fail
    refine wp_region_later (by kernel_rfl) (by kernel_rfl) ?_
    repeat (go_big_quiet_step (first | (go_at_call 13; with_reducible exact Calls.later (C15.out _)) | (go_at_call 13; with_reducible exact Calls.later (C16.out _)) | (go_at_call 13; with_reducible exact Calls.later (C17.out _)) | (go_at_call 11; with_reducible exact Calls.later (C18.out _))))
    refine wpQuiet_nil ?_
    rintro w5 ⟨x, rfl⟩
    have T7 := T6.call x.below
    generalize x.w = w5 at T7
    clear x
    obtain ⟨q0, -, q1, -, q2, -, q3, -, q4, -⟩ := T7.rules
    obtain ⟨l0, l1, l2, l3, l4, -⟩ := T7.lts
    have c19 := vmay a
    have c20 := vmay b
    have HL2 := HL.out
    generalize vmayB a = ma at c19 HL2
    generalize vmayB b = mb at c20 HL2
    have C19 := Lib.hid c19
    have C20 := Lib.hid c20
    clear c19 c20 hj hm hw T6 HL
    rcases (show ma = false ∨ ma = true from by cases ma <;> simp) with rfl | rfl
    case' inr => have hq := HL2 rfl
    all_goals
      rcases (show mb = false ∨ mb = true from by cases mb <;> simp) with rfl | rfl
    all_goals
      clear HL2
      go_wp2_with fail
      refine wp_region_later (by kernel_rfl) (by kernel_rfl) ?_
      repeat (go_big_quiet_step (first | (go_at_call 13; with_reducible exact Calls.later (C16.out _)) | (go_at_call 11; with_reducible exact Calls.later (C18.out _)) | (go_at_call 14; with_reducible exact Calls.later (C19.out _)) | (go_at_call 14; with_reducible exact Calls.later (C20.out _))))
      refine wpQuiet_nil ?_
      rintro w6 ⟨x, rfl⟩
      have T8 := T7.call x.below
      generalize x.w = w6 at T8
      clear x
      go_wp2_with (go_at_call 8; (with_reducible refine (works06 _).mono ?_); rintro e w7 ⟨rfl, hb⟩)
      go_ret
      exact ⟨rfl, T8.below.trans (hb.mono T8.below.size)⟩
end Go.Proofs.Ytlbdlmgcblmeeaa
