/-
  The walks of the document's package leatref07: right, Take, Free.
-/
import Derived.Test.YtgbbhkdaalnchaaRtB
namespace Go.Proofs.Ytgbbhkdaalnchaa
set_option linter.unusedVariables false
set_option linter.unusedSimpArgs false
open Go.RowKit Go
set_option maxRecDepth 100000

/-- The result of a function that answers rights and an error. -/
theorem results_rt {fn : Func} {s1 s2 : Nat} (h : fn.results = #[.cell s1 110, .tmp s2]) (tmps : Array Value) (g : Nat) (f : Nat → Int) (err : Int) (w : World) (ht : tmps.getD s1 undef = .pointer (some ⟨g, 0, none⟩)) (ht2 : tmps.getD s2 undef = .int .i64 err)
    (hb : Blk w g 110 (rtA f)) : (results fn tmps).run Try.prog w = .ok (.tuple #[.agg (rtA f), .int .i64 err]) w := by
  have hl := run_loadVar_mid (P := Try.prog) w g 0 110 (rtA f).toList _ hb.rng.at_ Try.underlying110 rfl (by rw [size_rt f]; simp)
  have h1 : tmps[s1]?.getD undef = .pointer (some ⟨g, 0, none⟩) := by rw [← ht]; simp
  have h2 : tmps[s2]?.getD undef = .int .i64 err := by rw [← ht2]; simp
  simp [results, h, h1, h2, hl, asAddr]
def SomeErr (w : World) (e : Ending) (w' : World) : Prop := ∃ n : Int, e = .returned (.int .i64 n) ∧ Below w.heap.size w w'
def SomeRt (w : World) (e : Ending) (w' : World) : Prop := ∃ (f : Nat → Int) (n : Int), e = .returned (.tuple #[.agg (rtA f), .int .i64 n]) ∧ Below w.heap.size w w'
theorem rregion7' (x : Int) (b : Bool) (h : regI x = b) (w : World) : Calls Try.prog 87 #[.int .i64 x] w fun e w' => e = .returned (.bool b) ∧ w = w' := by
  subst h; exact rregion7 x w
theorem regI_succ {k : Nat} (h : k < 6) : regI ((k : Int) + 1) = true := by unfold regI; simp; omega
theorem rright (f : Nat → Int) (k : Nat) (hk : k < 6) (x : Int) (w : World) : Calls Try.prog 86 #[.agg (rtA f), .int .i64 ((k : Int) + 1), .int .i64 x] w (SomeErr w) := by
  have C0 := Lib.hid (rmay7 f)
  have C1 := Lib.hid (rregion7' ((k : Int) + 1) true (regI_succ hk))
  obtain ⟨b1, h1⟩ : ∃ b, decide (x < 1) = b := ⟨_, rfl⟩
  obtain ⟨b2, h2⟩ : ∃ b, decide (1125899906842624 < x) = b := ⟨_, rfl⟩
  have T0 : Trk w _ [(w.heap.size, 110, rtA f)] := (Trk.nil w).push (t := 110) (cs := rtA f) rfl
  have HR := Lib.hid (T0.blk _ _ _ List.mem_cons_self).rng
  have HT := Lib.hid T0
  clear T0
  go_enter Try.func86, Try.ntmps86
  go_wp2_with (refine wpList_load_arr rfl 110 (.tmp 3) rfl w.heap.size 0 rfl (rtA f) _ HR.out Try.underlying110 rfl (size_rt f) ?_)
  refine (C0.out _).mono ?_
  rintro r w1 ⟨b, rfl, hb1⟩
  have T1 := HT.out.call hb1
  clear HT hb1 HR
  rcases (show b = false ∨ b = true from by cases b <;> simp) with rfl | rfl
  · go_wp2_with fail
    go_ret
    exact ⟨_, rfl, T1.below⟩
  rcases (show b1 = true ∨ b1 = false from by cases b1 <;> simp) with rfl | rfl
  · go_wp2_with fail
    go_ret
    exact ⟨_, rfl, T1.below⟩
  rcases (show b2 = true ∨ b2 = false from by cases b2 <;> simp) with rfl | rfl
  · go_wp2_with fail
    go_ret
    exact ⟨_, rfl, T1.below⟩
  go_wp2_with fail
  refine (C1.out _).mono ?_
  rintro r w2 ⟨rfl, rfl⟩
  go_wp2_with fail
  go_ret
  exact ⟨_, rfl, T1.below⟩
set_option maxHeartbeats 2000000 in
theorem r7take (f : Nat → Int) (k : Nat) (hk : k < 6) (x : Int) (w : World) : Calls Try.prog 83 #[.agg (rtA f), .int .i64 ((k : Int) + 1), .int .i64 x] w (SomeRt w) := by
  have k0 : (0 : Int) ≤ (k : Int) := by omega
  have k6 : (k : Int) < 6 := by omega
  have C0 := Lib.hid (fun W => rright f k hk x W)
  have C1 := Lib.hid (fun W => rlocal f k hk W)
  have T0 : Trk w _ [(w.heap.size + 1, 110, rtA z0), (w.heap.size, 110, rtA f)] := ((Trk.nil w).push (t := 110) (cs := rtA f) rfl).push (t := 110) (cs := rtA z0) (g := w.heap.size + 1) (by simp)
  have W1 : w.heap.size + 1 ≠ w.heap.size := by omega
  have W0 : w.heap.size ≤ w.heap.size + 1 := by omega
  have HR := Lib.hid (T0.blk w.heap.size 110 (rtA f) (by simp)).rng
  have HT := Lib.hid T0
  clear T0
  go_enter Try.func83, Try.ntmps83
  go_wp2_with (refine wpList_load_arr rfl 110 (.tmp 3) rfl w.heap.size 0 rfl (rtA f) _ HR.out Try.underlying110 rfl (size_rt f) ?_)
  refine (C0.out _).mono ?_
  rintro r w1 ⟨n, rfl, hb1⟩
  have T1 := HT.out.call hb1
  clear HT hb1 HR
  by_cases hn : n = 0
  rotate_left
  · have dn : (n != 0) = true := by simp [hn]
    have HB := Lib.hid (T1.blk (w.heap.size + 1) 110 (rtA z0) (by simp))
    clear hn
    go_wp2_with (refine wpList_store_whole rfl 110 (.tmp 6) (.tmp 15) rfl (w.heap.size + 1) (rtA z0) rfl rfl 110 (rtA z0) HB.out (size_rt z0) (by simp only [rtA_size]) (rtA_cell z0) ?_)
    exact bodyPost_ret (v := .tuple #[.agg (rtA z0), .int .i64 n]) (results_rt (s1 := 6) (s2 := 7) (by kernel_rfl) _ (w.heap.size + 1) z0 n _ rfl rfl ((T1.lay W0 ⟨fun e => W1 e.symm, trivial⟩ (rtA z0)).blk _ _ _ List.mem_cons_self)) rfl ⟨_, _, rfl, (T1.lay W0 ⟨fun e => W1 e.symm, trivial⟩ (rtA z0)).below⟩
  subst hn
  have HR := Lib.hid (T1.blk w.heap.size 110 (rtA f) (by simp)).rng
  go_wp2_with (refine wpList_load_arr rfl 110 (.tmp 3) rfl w.heap.size 0 rfl (rtA f) _ HR.out Try.underlying110 rfl (size_rt f) ?_)
  refine (C1.out _).mono ?_
  rintro r w2 ⟨y, rfl, hb2⟩
  have T2 := T1.call hb2
  clear T1 hb2 HR
  obtain ⟨b1, h1⟩ : ∃ b, decide (y < x) = b := ⟨_, rfl⟩
  rcases (show b1 = true ∨ b1 = false from by cases b1 <;> simp) with rfl | rfl
  ·
    have HB := Lib.hid (T2.blk (w.heap.size + 1) 110 (rtA z0) (by simp))
    go_wp2_with (refine wpList_store_whole rfl 110 (.tmp 6) (.tmp 22) rfl (w.heap.size + 1) (rtA z0) rfl rfl 110 (rtA z0) HB.out (size_rt z0) (by simp only [rtA_size]) (rtA_cell z0) ?_)
    exact bodyPost_ret (v := .tuple #[.agg (rtA z0), .int .i64 11]) (results_rt (s1 := 6) (s2 := 7) (by kernel_rfl) _ (w.heap.size + 1) z0 11 _ rfl rfl ((T2.lay W0 ⟨fun e => W1 e.symm, trivial⟩ (rtA z0)).blk _ _ _ List.mem_cons_self)) rfl ⟨_, _, rfl, (T2.lay W0 ⟨fun e => W1 e.symm, trivial⟩ (rtA z0)).below⟩
  obtain ⟨q1, -, q0, f0, -⟩ := T2.rules
  obtain ⟨-, l0, -⟩ := T2.lts
  have c1 := rtA_get f (6 + k) (by omega)
  obtain ⟨b2, h2⟩ : ∃ b, decide (1125899906842624 < wrap64 (f (6 + k) + x)) = b := ⟨_, rfl⟩
  rcases (show b2 = true ∨ b2 = false from by cases b2 <;> simp) with rfl | rfl
  ·
    have HB := Lib.hid (T2.blk (w.heap.size + 1) 110 (rtA z0) (by simp))
    go_wp2_with (refine wpList_store_whole rfl 110 (.tmp 6) (.tmp 31) rfl (w.heap.size + 1) (rtA z0) rfl rfl 110 (rtA z0) HB.out (size_rt z0) (by simp only [rtA_size]) (rtA_cell z0) ?_)
    exact bodyPost_ret (v := .tuple #[.agg (rtA z0), .int .i64 6]) (results_rt (s1 := 6) (s2 := 7) (by kernel_rfl) _ (w.heap.size + 1) z0 6 _ rfl rfl ((T2.lay W0 ⟨fun e => W1 e.symm, trivial⟩ (rtA z0)).blk _ _ _ List.mem_cons_self)) rfl ⟨_, _, rfl, (T2.lay W0 ⟨fun e => W1 e.symm, trivial⟩ (rtA z0)).below⟩
  have TS := T2.perm (cs := [(w.heap.size, 110, rtA f), (w.heap.size + 1, 110, rtA z0)]) (by simp)
  go_upto_region 9 with fail
  have T3 := TS.set_ (Nat.le_refl _) ⟨W1, trivial⟩ (6 + k) (.int .i64 (wrap64 (f (6 + k) + x)))
  rw [rtA_set f (6 + k) (by omega)] at T3
  generalize fset f (6 + k) _ = f3 at T3
  generalize w2.setCell _ _ = w3 at T3 ⊢
  clear q1 q0 f0 l0 T2 TS c1 h1 h2
  have HR := Lib.hid (T3.blk w.heap.size 110 (rtA f3) (by simp)).rng
  have HB := Lib.hid (T3.blk (w.heap.size + 1) 110 (rtA z0) (by simp))
  have T4 := (T3.perm (cs := [(w.heap.size + 1, 110, rtA z0), (w.heap.size, 110, rtA f3)]) (by simp)).lay W0 ⟨fun e => W1 e.symm, trivial⟩ (rtA f3)
  have HT := Lib.hid T4
  clear T3 T4
  go_wp2_with (first | (refine wpList_load_arr rfl 110 (.tmp 3) rfl w.heap.size 0 rfl (rtA f3) _ HR.out Try.underlying110 rfl (size_rt f3) ?_) | (refine wpList_store_whole rfl 110 (.tmp 6) (.tmp 41) rfl (w.heap.size + 1) (rtA f3) rfl rfl 110 (rtA z0) HB.out (size_rt f3) (by simp only [rtA_size]) (rtA_cell f3) ?_))
  exact bodyPost_ret (v := .tuple #[.agg (rtA f3), .int .i64 0]) (results_rt (s1 := 6) (s2 := 7) (by kernel_rfl) _ (w.heap.size + 1) f3 0 _ rfl rfl (HT.out.blk _ _ _ List.mem_cons_self)) rfl ⟨_, _, rfl, HT.out.below⟩
set_option maxHeartbeats 2000000 in
theorem rfree (f : Nat → Int) (k : Nat) (hk : k < 6) (x : Int) (w : World) : Calls Try.prog 85 #[.agg (rtA f), .int .i64 ((k : Int) + 1), .int .i64 x] w (SomeRt w) := by
  have k0 : (0 : Int) ≤ (k : Int) := by omega
  have k6 : (k : Int) < 6 := by omega
  have C0 := Lib.hid (fun W => rright f k hk x W)
  have C1 := Lib.hid (fun W => rlocal f k hk W)
  have T0 : Trk w _ [(w.heap.size + 1, 110, rtA z0), (w.heap.size, 110, rtA f)] := ((Trk.nil w).push (t := 110) (cs := rtA f) rfl).push (t := 110) (cs := rtA z0) (g := w.heap.size + 1) (by simp)
  have W1 : w.heap.size + 1 ≠ w.heap.size := by omega
  have W0 : w.heap.size ≤ w.heap.size + 1 := by omega
  have HR := Lib.hid (T0.blk w.heap.size 110 (rtA f) (by simp)).rng
  have HT := Lib.hid T0
  clear T0
  go_enter Try.func85, Try.ntmps85
  go_wp2_with (refine wpList_load_arr rfl 110 (.tmp 3) rfl w.heap.size 0 rfl (rtA f) _ HR.out Try.underlying110 rfl (size_rt f) ?_)
  refine (C0.out _).mono ?_
  rintro r w1 ⟨n, rfl, hb1⟩
  have T1 := HT.out.call hb1
  clear HT hb1 HR
  by_cases hn : n = 0
  rotate_left
  · have dn : (n != 0) = true := by simp [hn]
    have HB := Lib.hid (T1.blk (w.heap.size + 1) 110 (rtA z0) (by simp))
    clear hn
    go_wp2_with (refine wpList_store_whole rfl 110 (.tmp 6) (.tmp 15) rfl (w.heap.size + 1) (rtA z0) rfl rfl 110 (rtA z0) HB.out (size_rt z0) (by simp only [rtA_size]) (rtA_cell z0) ?_)
    exact bodyPost_ret (v := .tuple #[.agg (rtA z0), .int .i64 n]) (results_rt (s1 := 6) (s2 := 7) (by kernel_rfl) _ (w.heap.size + 1) z0 n _ rfl rfl ((T1.lay W0 ⟨fun e => W1 e.symm, trivial⟩ (rtA z0)).blk _ _ _ List.mem_cons_self)) rfl ⟨_, _, rfl, (T1.lay W0 ⟨fun e => W1 e.symm, trivial⟩ (rtA z0)).below⟩
  subst hn
  obtain ⟨q1, -, q0, f0, -⟩ := T1.rules
  obtain ⟨-, l0, -⟩ := T1.lts
  have c1 := rtA_get f (6 + k) (by omega)
  have c2 := rtA_get f (12 + k) (by omega)
  obtain ⟨b1, h1⟩ : ∃ b, decide (wrap64 (f (6 + k) - f (12 + k)) < x) = b := ⟨_, rfl⟩
  rcases (show b1 = true ∨ b1 = false from by cases b1 <;> simp) with rfl | rfl
  ·
    go_upto_region 4 with fail
    go_quiet (fail)
    have T2 := T1.drewN nq
    generalize w1.drewN nq = w2 at T2 ⊢
    clear q1 q0 f0 l0 c1 c2 T1 h1
    have HB := Lib.hid (T2.blk (w.heap.size + 1) 110 (rtA z0) (by simp))
    go_wp2_with (refine wpList_store_whole rfl 110 (.tmp 6) (.tmp 30) rfl (w.heap.size + 1) (rtA z0) rfl rfl 110 (rtA z0) HB.out (size_rt z0) (by simp only [rtA_size]) (rtA_cell z0) ?_)
    exact bodyPost_ret (v := .tuple #[.agg (rtA z0), .int .i64 12]) (results_rt (s1 := 6) (s2 := 7) (by kernel_rfl) _ (w.heap.size + 1) z0 12 _ rfl rfl ((T2.lay W0 ⟨fun e => W1 e.symm, trivial⟩ (rtA z0)).blk _ _ _ List.mem_cons_self)) rfl ⟨_, _, rfl, (T2.lay W0 ⟨fun e => W1 e.symm, trivial⟩ (rtA z0)).below⟩
  go_upto_region 4 with fail
  go_quiet (fail)
  have T2 := T1.drewN nq
  generalize w1.drewN nq = w2 at T2 ⊢
  clear q1 q0 f0 l0 c1 c2 T1
  obtain ⟨q1, -, q0, f0, -⟩ := T2.rules
  obtain ⟨-, l0, -⟩ := T2.lts
  have c1 := rtA_get f (12 + k) (by omega)
  have h2 := h1
  have TS := T2.perm (cs := [(w.heap.size, 110, rtA f), (w.heap.size + 1, 110, rtA z0)]) (by simp)
  go_upto_region 7 with fail
  have T3 := TS.set_ (Nat.le_refl _) ⟨W1, trivial⟩ (12 + k) (.int .i64 (wrap64 (f (12 + k) + x)))
  rw [rtA_set f (12 + k) (by omega)] at T3
  generalize fset f (12 + k) _ = f3 at T3
  generalize w2.setCell _ _ = w3 at T3 ⊢
  clear q1 q0 f0 l0 T2 TS c1 h1 h2
  have HR := Lib.hid (T3.blk w.heap.size 110 (rtA f3) (by simp)).rng
  have HB := Lib.hid (T3.blk (w.heap.size + 1) 110 (rtA z0) (by simp))
  have T4 := (T3.perm (cs := [(w.heap.size + 1, 110, rtA z0), (w.heap.size, 110, rtA f3)]) (by simp)).lay W0 ⟨fun e => W1 e.symm, trivial⟩ (rtA f3)
  have HT := Lib.hid T4
  clear T3 T4
  go_wp2_with (first | (refine wpList_load_arr rfl 110 (.tmp 3) rfl w.heap.size 0 rfl (rtA f3) _ HR.out Try.underlying110 rfl (size_rt f3) ?_) | (refine wpList_store_whole rfl 110 (.tmp 6) (.tmp 40) rfl (w.heap.size + 1) (rtA f3) rfl rfl 110 (rtA z0) HB.out (size_rt f3) (by simp only [rtA_size]) (rtA_cell f3) ?_))
  exact bodyPost_ret (v := .tuple #[.agg (rtA f3), .int .i64 0]) (results_rt (s1 := 6) (s2 := 7) (by kernel_rfl) _ (w.heap.size + 1) f3 0 _ rfl rfl (HT.out.blk _ _ _ List.mem_cons_self)) rfl ⟨_, _, rfl, HT.out.below⟩
end Go.Proofs.Ytgbbhkdaalnchaa
