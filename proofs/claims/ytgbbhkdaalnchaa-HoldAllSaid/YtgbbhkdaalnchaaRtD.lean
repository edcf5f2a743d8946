/-
  The walk of the document's package leatref07: Move.
-/
import Derived.Test.YtgbbhkdaalnchaaRtC
import Derived.RegionTactic
namespace Go.Proofs.Ytgbbhkdaalnchaa
set_option linter.unusedVariables false
set_option linter.unusedSimpArgs false
open Go.RowKit Go
set_option maxRecDepth 100000

set_option maxHeartbeats 2000000 in
theorem rmove (f : Nat → Int) (k : Nat) (hk : k < 6) (j : Int) (x : Int) (w : World) : Calls Try.prog 74 #[.agg (rtA f), .int .i64 ((k : Int) + 1), .int .i64 j, .int .i64 x] w (SomeRt w) := by
  have k0 : (0 : Int) ≤ (k : Int) := by omega
  have k6 : (k : Int) < 6 := by omega
  have C0 := Lib.hid (fun W => rright f k hk x W)
  have C1 := Lib.hid (fun W => rlocal f k hk W)
  obtain ⟨bj, hj⟩ : ∃ b, regI j = b := ⟨_, rfl⟩
  have HJ := Lib.hid hj
  have C2 := Lib.hid (fun W => rregion7' j bj hj W)
  clear hj
  have T0 : Trk w _ [(w.heap.size + 1, 110, rtA z0), (w.heap.size, 110, rtA f)] := ((Trk.nil w).push (t := 110) (cs := rtA f) rfl).push (t := 110) (cs := rtA z0) (g := w.heap.size + 1) (by simp)
  have W1 : w.heap.size + 1 ≠ w.heap.size := by omega
  have W0 : w.heap.size ≤ w.heap.size + 1 := by omega
  have HR := Lib.hid (T0.blk w.heap.size 110 (rtA f) (by simp)).rng
  have HT := Lib.hid T0
  clear T0
  go_enter Try.func74, Try.ntmps74
  go_wp2_with (refine wpList_load_arr rfl 110 (.tmp 4) rfl w.heap.size 0 rfl (rtA f) _ HR.out Try.underlying110 rfl (size_rt f) ?_)
  refine (C0.out _).mono ?_
  rintro r w1 ⟨n, rfl, hb1⟩
  have T1 := HT.out.call hb1
  clear HT hb1 HR
  by_cases hn : n = 0
  rotate_left
  · have dn : (n != 0) = true := by simp [hn]
    have HB := Lib.hid (T1.blk (w.heap.size + 1) 110 (rtA z0) (by simp))
    clear hn
    go_wp2_with (refine wpList_store_whole rfl 110 (.tmp 8) (.tmp 17) rfl (w.heap.size + 1) (rtA z0) rfl rfl 110 (rtA z0) HB.out (size_rt z0) (by simp only [rtA_size]) (rtA_cell z0) ?_)
    exact bodyPost_ret (v := .tuple #[.agg (rtA z0), .int .i64 n]) (results_rt (s1 := 8) (s2 := 9) (by kernel_rfl) _ (w.heap.size + 1) z0 n _ rfl rfl ((T1.lay W0 ⟨fun e => W1 e.symm, trivial⟩ (rtA z0)).blk _ _ _ List.mem_cons_self)) rfl ⟨_, _, rfl, (T1.lay W0 ⟨fun e => W1 e.symm, trivial⟩ (rtA z0)).below⟩
  subst hn
  rcases (show bj = false ∨ bj = true from by cases bj <;> simp) with rfl | rfl
  · go_wp2_with fail
    refine (C2.out _).mono ?_
    rintro r w2 ⟨rfl, rfl⟩
    have HB := Lib.hid (T1.blk (w.heap.size + 1) 110 (rtA z0) (by simp))
    go_wp2_with (refine wpList_store_whole rfl 110 (.tmp 8) (.tmp 22) rfl (w.heap.size + 1) (rtA z0) rfl rfl 110 (rtA z0) HB.out (size_rt z0) (by simp only [rtA_size]) (rtA_cell z0) ?_)
    exact bodyPost_ret (v := .tuple #[.agg (rtA z0), .int .i64 10]) (results_rt (s1 := 8) (s2 := 9) (by kernel_rfl) _ (w.heap.size + 1) z0 10 _ rfl rfl ((T1.lay W0 ⟨fun e => W1 e.symm, trivial⟩ (rtA z0)).blk _ _ _ List.mem_cons_self)) rfl ⟨_, _, rfl, (T1.lay W0 ⟨fun e => W1 e.symm, trivial⟩ (rtA z0)).below⟩
  have hj : 1 ≤ j ∧ j ≤ 6 := by have := HJ.out; unfold regI at this; simp at this; omega
  obtain ⟨m, rfl⟩ : ∃ m : Nat, j = (m : Int) + 1 := ⟨(j - 1).toNat, by omega⟩
  have m0 : (0 : Int) ≤ (m : Int) := by omega
  have m6 : (m : Int) < 6 := by omega
  clear hj HJ
  go_wp2_with fail
  refine (C2.out _).mono ?_
  rintro r w2 ⟨rfl, rfl⟩
  obtain ⟨b0, h0⟩ : ∃ b, ((k : Int) + 1 == (m : Int) + 1) = b := ⟨_, rfl⟩
  rcases (show b0 = true ∨ b0 = false from by cases b0 <;> simp) with rfl | rfl
  ·
    have HB := Lib.hid (T1.blk (w.heap.size + 1) 110 (rtA z0) (by simp))
    go_wp2_with (refine wpList_store_whole rfl 110 (.tmp 8) (.tmp 26) rfl (w.heap.size + 1) (rtA z0) rfl rfl 110 (rtA z0) HB.out (size_rt z0) (by simp only [rtA_size]) (rtA_cell z0) ?_)
    exact bodyPost_ret (v := .tuple #[.agg (rtA z0), .int .i64 1]) (results_rt (s1 := 8) (s2 := 9) (by kernel_rfl) _ (w.heap.size + 1) z0 1 _ rfl rfl ((T1.lay W0 ⟨fun e => W1 e.symm, trivial⟩ (rtA z0)).blk _ _ _ List.mem_cons_self)) rfl ⟨_, _, rfl, (T1.lay W0 ⟨fun e => W1 e.symm, trivial⟩ (rtA z0)).below⟩
  have HR := Lib.hid (T1.blk w.heap.size 110 (rtA f) (by simp)).rng
  go_wp2_with (refine wpList_load_arr rfl 110 (.tmp 4) rfl w.heap.size 0 rfl (rtA f) _ HR.out Try.underlying110 rfl (size_rt f) ?_)
  refine (C1.out _).mono ?_
  rintro r w2 ⟨y, rfl, hb2⟩
  have T2 := T1.call hb2
  clear T1 hb2 HR
  obtain ⟨b1, h1⟩ : ∃ b, decide (y < x) = b := ⟨_, rfl⟩
  rcases (show b1 = true ∨ b1 = false from by cases b1 <;> simp) with rfl | rfl
  ·
    have HB := Lib.hid (T2.blk (w.heap.size + 1) 110 (rtA z0) (by simp))
    go_wp2_with (refine wpList_store_whole rfl 110 (.tmp 8) (.tmp 32) rfl (w.heap.size + 1) (rtA z0) rfl rfl 110 (rtA z0) HB.out (size_rt z0) (by simp only [rtA_size]) (rtA_cell z0) ?_)
    exact bodyPost_ret (v := .tuple #[.agg (rtA z0), .int .i64 11]) (results_rt (s1 := 8) (s2 := 9) (by kernel_rfl) _ (w.heap.size + 1) z0 11 _ rfl rfl ((T2.lay W0 ⟨fun e => W1 e.symm, trivial⟩ (rtA z0)).blk _ _ _ List.mem_cons_self)) rfl ⟨_, _, rfl, (T2.lay W0 ⟨fun e => W1 e.symm, trivial⟩ (rtA z0)).below⟩
  obtain ⟨q1, -, q0, f0, -⟩ := T2.rules
  obtain ⟨-, l0, -⟩ := T2.lts
  have c1 := rtA_get f (18 + k * 6 + m) (by omega)
  obtain ⟨b2, h2⟩ : ∃ b, decide (1125899906842624 < wrap64 (f (18 + k * 6 + m) + x)) = b := ⟨_, rfl⟩
  rcases (show b2 = true ∨ b2 = false from by cases b2 <;> simp) with rfl | rfl
  ·
    have HB := Lib.hid (T2.blk (w.heap.size + 1) 110 (rtA z0) (by simp))
    go_wp2_with (refine wpList_store_whole rfl 110 (.tmp 8) (.tmp 44) rfl (w.heap.size + 1) (rtA z0) rfl rfl 110 (rtA z0) HB.out (size_rt z0) (by simp only [rtA_size]) (rtA_cell z0) ?_)
    exact bodyPost_ret (v := .tuple #[.agg (rtA z0), .int .i64 6]) (results_rt (s1 := 8) (s2 := 9) (by kernel_rfl) _ (w.heap.size + 1) z0 6 _ rfl rfl ((T2.lay W0 ⟨fun e => W1 e.symm, trivial⟩ (rtA z0)).blk _ _ _ List.mem_cons_self)) rfl ⟨_, _, rfl, (T2.lay W0 ⟨fun e => W1 e.symm, trivial⟩ (rtA z0)).below⟩
  have TS := T2.perm (cs := [(w.heap.size, 110, rtA f), (w.heap.size + 1, 110, rtA z0)]) (by simp)
  go_upto_region 12 with fail
  go_region
  have T3 := TS.set_ (Nat.le_refl _) ⟨W1, trivial⟩ (18 + k * 6 + m) (.int .i64 (wrap64 (f (18 + k * 6 + m) + x))) |>.drew
  rw [rtA_set f (18 + k * 6 + m) (by omega)] at T3
  generalize fset f (18 + k * 6 + m) _ = f3 at T3
  generalize (w2.setCell _ _).drew = w3 at T3 ⊢
  clear q1 q0 f0 l0 T2 TS c1 h1 h2
  have HR := Lib.hid (T3.blk w.heap.size 110 (rtA f3) (by simp)).rng
  have HB := Lib.hid (T3.blk (w.heap.size + 1) 110 (rtA z0) (by simp))
  have T4 := (T3.perm (cs := [(w.heap.size + 1, 110, rtA z0), (w.heap.size, 110, rtA f3)]) (by simp)).lay W0 ⟨fun e => W1 e.symm, trivial⟩ (rtA f3)
  have HT := Lib.hid T4
  clear T3 T4
  go_wp2_with (first | (refine wpList_load_arr rfl 110 (.tmp 4) rfl w.heap.size 0 rfl (rtA f3) _ HR.out Try.underlying110 rfl (size_rt f3) ?_) | (refine wpList_store_whole rfl 110 (.tmp 8) (.tmp 58) rfl (w.heap.size + 1) (rtA f3) rfl rfl 110 (rtA z0) HB.out (size_rt f3) (by simp only [rtA_size]) (rtA_cell f3) ?_))
  exact bodyPost_ret (v := .tuple #[.agg (rtA f3), .int .i64 0]) (results_rt (s1 := 8) (s2 := 9) (by kernel_rfl) _ (w.heap.size + 1) f3 0 _ rfl rfl (HT.out.blk _ _ _ List.mem_cons_self)) rfl ⟨_, _, rfl, HT.out.below⟩
end Go.Proofs.Ytgbbhkdaalnchaa
