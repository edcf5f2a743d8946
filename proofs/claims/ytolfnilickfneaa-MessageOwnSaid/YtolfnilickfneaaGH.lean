/-
  The walk of package event: Take, inside.
  The walks of the laws of chapter 08: Take everywhere, works.
-/
import Derived.Test.YtolfnilickfneaaEk
namespace Go.Proofs.Ytolfnilickfneaa
set_option linter.unusedVariables false
set_option linter.unusedSimpArgs false
open Go.RowKit

set_option maxHeartbeats 4000000 in
theorem etake_in (b o cap : Nat) (l : List Int) (m : Nat) (w : World) (hc : ∀ i x, l[i]? = some x → w.cell? ⟨b, o + i, none⟩ = some (.int .u8 x)) (hb : b < w.heap.size) (hn : l.length ≤ cap) (hm : cap ≤ maxLen) (hby : ∀ c ∈ l, 0 ≤ c ∧ c ≤ 255) (h : m + 91 ≤ l.length) :
    Calls Try.prog 28 #[.slice (some ⟨b, o, none⟩) l.length cap, .int .i64 m] w (GivesT (takeE l m) w) := by
  have hm1 : cap ≤ 9223372036854775807 := hm
  have HC := Lib.hid hc
  have HBY := Lib.hid hby
  obtain ⟨E, hE⟩ : ∃ E : Ev, E = readAt l m := ⟨_, rfl⟩
  obtain ⟨y, hy⟩ : ∃ y, emayB E = y := ⟨_, rfl⟩
  have r1 := numL_one l m (by omega) hby
  have r2 := numL_one l (m + 57) (by omega) hby
  have r3 := numL_one l (m + 66) (by omega) hby
  have C9 := Lib.hid (emay' E (by rw [hE]; exact readAt_ok l m h hby) y hy)
  have HD := Lib.hid (show y = true → vmayB E.d = true from fun e => emayB_deps (by rw [hy, e]))
  have HR := Lib.hid (show takeE l m = if y = true then (E, (m : Int) + 91, 0) else (Ev.zero, 0, 5) from by
    cases y
    · rw [takeE_no h (by rw [← hE]; exact hy)]; rfl
    · rw [takeE_yes h (by rw [← hE]; exact hy), hE]; rfl)
  have HE := Lib.hid hE
  obtain ⟨l', hl'⟩ : ∃ l', l' = (l.drop (m + 9)).take 48 := ⟨_, rfl⟩
  have hll : l'.length = 48 := by rw [hl', List.length_take, List.length_drop]; omega
  obtain ⟨m2, hm2⟩ : ∃ k, k = m + 9 := ⟨_, rfl⟩
  have c8 := fun W (hW : Below w.heap.size w W) => vof (some ⟨b, o + m2, none⟩) (cap - m2) l' w.heap.size W
    (fun _ => ⟨b, o + m2, rfl, hb, fun i x hi => by
      have hi48 : i < 48 := by rw [← hll]; exact (List.getElem?_eq_some_iff.1 hi).1
      rw [hl', List.getElem?_take, if_pos hi48, List.getElem?_drop, ← hm2] at hi
      rw [Nat.add_assoc]
      exact (hW.cell (p := ⟨b, _, none⟩) hb).trans (hc _ x hi)⟩) hW.size (by omega) (by omega) (fun c hcm => hby c (by rw [hl'] at hcm; exact List.mem_of_mem_drop (List.mem_of_mem_take hcm)))
  have hP : vofP l' = if vmayB E.d = true then (E.d, 0) else (Vec.zero, 5) := by
    have : E.d = ofL l' := by rw [hE, hl']; rfl
    unfold vofP
    rw [hll, this]
    simp
  rw [hll, hP] at c8
  obtain ⟨vb, hvb⟩ : ∃ v, vmayB E.d = v := ⟨_, rfl⟩
  rw [hvb] at c8
  rw [hvb] at HD
  obtain ⟨D, er, hDe⟩ : ∃ (D : Vec) (er : Int), (if vb = true then (E.d, (0 : Int)) else (Vec.zero, 5)) = (D, er) := ⟨_, _, rfl⟩
  rw [hDe] at c8
  simp only at c8
  have C8 := Lib.hid c8
  have HDE := Lib.hid hDe
  obtain ⟨m1, hm1⟩ : ∃ k, k = m + 1 := ⟨_, rfl⟩
  obtain ⟨m3, hm3⟩ : ∃ k, k = m + 57 := ⟨_, rfl⟩
  obtain ⟨m4, hm4⟩ : ∃ k, k = m + 58 := ⟨_, rfl⟩
  obtain ⟨m5, hm5⟩ : ∃ k, k = m + 66 := ⟨_, rfl⟩
  obtain ⟨m6, hm6⟩ : ∃ k, k = m + 67 := ⟨_, rfl⟩
  obtain ⟨m7, hm7⟩ : ∃ k, k = m + 75 := ⟨_, rfl⟩
  obtain ⟨m8, hm8⟩ : ∃ k, k = m + 83 := ⟨_, rfl⟩
  obtain ⟨m9, hm9⟩ : ∃ k, k = m + 91 := ⟨_, rfl⟩
  obtain ⟨x0, hx0⟩ : ∃ x, x = numL ((l.drop m).take 1) := ⟨_, rfl⟩
  obtain ⟨x1, hx1⟩ : ∃ x, x = numL ((l.drop m1).take 8) := ⟨_, rfl⟩
  obtain ⟨x3, hx3⟩ : ∃ x, x = numL ((l.drop m3).take 1) := ⟨_, rfl⟩
  obtain ⟨x4, hx4⟩ : ∃ x, x = numL ((l.drop m4).take 8) := ⟨_, rfl⟩
  obtain ⟨x5, hx5⟩ : ∃ x, x = numL ((l.drop m5).take 1) := ⟨_, rfl⟩
  obtain ⟨x6, hx6⟩ : ∃ x, x = numL ((l.drop m6).take 8) := ⟨_, rfl⟩
  obtain ⟨x7, hx7⟩ : ∃ x, x = numL ((l.drop m7).take 8) := ⟨_, rfl⟩
  obtain ⟨x8, hx8⟩ : ∃ x, x = numL ((l.drop m8).take 8) := ⟨_, rfl⟩
  have HEF := Lib.hid (show E = ⟨x0, x1, E.d, x3, x4, x5, wrap64 x6, x7, x8⟩ from by
    rw [← IntWalk.i64_left, hE, hx0, hx1, hx3, hx4, hx5, hx6, hx7, hx8, hm1, hm3, hm4, hm5, hm6, hm7, hm8]; rfl)
  have x0a : 0 ≤ x0 ∧ x0 ≤ 255 := by rw [hx0, r1.1]; exact r1.2
  have x3a : 0 ≤ x3 ∧ x3 ≤ 255 := by rw [hx3, hm3, r2.1]; exact r2.2
  have x5a : 0 ≤ x5 ∧ x5 ≤ 255 := by rw [hx5, hm5, r3.1]; exact r3.2
  have x1a : 0 ≤ x1 ∧ x1 ≤ 18446744073709551615 := by rw [hx1]; exact num8_range _ _ hby _
  have x6a : 0 ≤ x6 ∧ x6 ≤ 18446744073709551615 := by rw [hx6]; exact num8_range _ _ hby _
  have hh : m9 ≤ l.length := by omega
  have H1 := Lib.hid hm1
  have H2 := Lib.hid hm2
  have H3 := Lib.hid hm3
  have H4 := Lib.hid hm4
  have H5 := Lib.hid hm5
  have H6 := Lib.hid hm6
  have H7 := Lib.hid hm7
  have H8 := Lib.hid hm8
  have H9 := Lib.hid hm9
  have X0 := Lib.hid hx0
  have X1 := Lib.hid hx1
  have X3 := Lib.hid hx3
  have X4 := Lib.hid hx4
  have X5 := Lib.hid hx5
  have X6 := Lib.hid hx6
  have X7 := Lib.hid hx7
  have X8 := Lib.hid hx8
  have B2 : m2 + 48 ≤ l.length := by omega
  have B2' : ¬ cap = m2 := by omega
  clear hc hby hE hy hl' hll c8 hP hvb hDe hm1 hm2 hm3 hm4 hm5 hm6 hm7 hm8 hm9 hx0 hx1 hx3 hx4 hx5 hx6 hx7 hx8 r1 r2 r3
  go_enter Try.func28, Try.ntmps28
  go_upto_region 8 with fail
  have T : Trk w _ [(w.heap.size + 1, 41, evA Ev.zero), (w.heap.size + 1 + 1, 3, #[.int .i64 (m : Int)]), (w.heap.size, 42, #[.slice (some ⟨b, o, none⟩) l.length cap])] := ((((Trk.nil w).push (t := 42) (cs := #[.slice (some ⟨b, o, none⟩) l.length cap]) rfl).push (t := 41) (cs := evA Ev.zero) (g := w.heap.size + 1) (by simp)).push (t := 3) (cs := #[.int .i64 (m : Int)]) (g := w.heap.size + 1 + 1) (by simp)).perm (by simp)
  generalize ((w.alloc _).alloc _).alloc _ = w1 at T ⊢
  go_wp2_with fail
  refine (etkA1 m T (by omega) (by omega) (by omega) HC.out hb hn hm HBY.out m1 x0 H1.out X0.out (by have := H1.out; omega)).mono ?_
  clear T
  rintro r w1 ⟨rfl, T⟩
  go_wp2_with fail
  refine (etkA8 m1 T (by omega) (by omega) (by omega) HC.out hb hn hm HBY.out m2 x1 (by have := H1.out; have := H2.out; omega) X1.out (by omega)).mono ?_
  clear T
  rintro r w1 ⟨rfl, T⟩
  obtain ⟨q4, f4, q5, f5, q2, f2, -⟩ := T.rules
  obtain ⟨l4, l5, l2, -⟩ := T.lts
  go_wp2_with fail
  replace T := (T.set_ (by omega) ⟨by omega, by omega, trivial⟩ 0 (.int .i64 x0)).set_ (by omega) ⟨by omega, by omega, trivial⟩ 1 (.int .u64 x1)
  rw [evA_set0, evA_set1] at T
  simp only [evzero_o, evzero_s, evzero_d, evzero_k, evzero_n, evzero_t, evzero_a, evzero_r, evzero_f] at T
  generalize (w1.setCell _ _).setCell _ _ = w2 at T ⊢
  clear q4 f4 q5 f5 q2 f2 l4 l5 l2
  refine (C8.out _ T.below).mono ?_
  rintro r w3 ⟨rfl, hb3⟩
  replace T := T.call hb3
  clear hb3
  obtain ⟨q4, f4, q5, f5, q2, f2, -⟩ := T.rules
  obtain ⟨l4, l5, l2, -⟩ := T.lts
  go_wp2_with fail
  replace T := (((((T.set_ (by omega) ⟨by omega, by omega, trivial⟩ 2 (.int .u64 D.v0)).set_ (by omega) ⟨by omega, by omega, trivial⟩ 3 (.int .u64 D.v1)).set_ (by omega) ⟨by omega, by omega, trivial⟩ 4 (.int .u64 D.v2)).set_ (by omega) ⟨by omega, by omega, trivial⟩ 5 (.int .u64 D.v3)).set_ (by omega) ⟨by omega, by omega, trivial⟩ 6 (.int .u64 D.v4)).set_ (by omega) ⟨by omega, by omega, trivial⟩ 7 (.int .u64 D.v5)
  rw [evA_set2, evA_set3, evA_set4, evA_set5, evA_set6, evA_set7] at T
  simp only [vec_eta] at T
  replace T := ((T.perm (cs := [(w.heap.size + 1 + 1, 3, #[.int .i64 (m2 : Int)]), (w.heap.size + 1, 41, evA ⟨x0, x1, D, 0, 0, 0, 0, 0, 0⟩), (w.heap.size, 42, #[.slice (some ⟨b, o, none⟩) l.length cap])]) (by simp)).set_ (by omega) ⟨by omega, by omega, trivial⟩ 0 (.int .i64 ((m2 : Int) + 48)))
  rw [show ((m2 : Int) + 48) = (m3 : Int) from by have := H2.out; have := H3.out; omega] at T
  have e3 : ((m2 : Int) + 48) = (m3 : Int) := by have := H2.out; have := H3.out; omega
  rw [e3]
  clear e3
  replace T := T.perm (cs := [(w.heap.size + 1, 41, evA ⟨x0, x1, D, 0, 0, 0, 0, 0, 0⟩), (w.heap.size + 1 + 1, 3, #[.int .i64 (m3 : Int)]), (w.heap.size, 42, #[.slice (some ⟨b, o, none⟩) l.length cap])]) (by simp)
  generalize ((((((w3.setCell _ _).setCell _ _).setCell _ _).setCell _ _).setCell _ _).setCell _ _).setCell _ _ = w2 at T ⊢
  clear q4 f4 q5 f5 q2 f2 l4 l5 l2
  refine (etkA1 m3 T (by omega) (by omega) (by omega) HC.out hb hn hm HBY.out m4 x3 (by have := H3.out; have := H4.out; omega) X3.out (by have := H4.out; omega)).mono ?_
  clear T
  rintro r w1 ⟨rfl, T⟩
  go_wp2_with fail
  refine (etkA8 m4 T (by omega) (by omega) (by omega) HC.out hb hn hm HBY.out m5 x4 (by have := H4.out; have := H5.out; omega) X4.out (by have := H5.out; omega)).mono ?_
  clear T
  rintro r w1 ⟨rfl, T⟩
  go_wp2_with fail
  refine (etkA1 m5 T (by omega) (by omega) (by omega) HC.out hb hn hm HBY.out m6 x5 (by have := H5.out; have := H6.out; omega) X5.out (by have := H6.out; omega)).mono ?_
  clear T
  rintro r w1 ⟨rfl, T⟩
  obtain ⟨q4, f4, q5, f5, q2, f2, -⟩ := T.rules
  obtain ⟨l4, l5, l2, -⟩ := T.lts
  go_wp2_with fail
  replace T := ((T.set_ (by omega) ⟨by omega, by omega, trivial⟩ 8 (.int .u8 x3)).set_ (by omega) ⟨by omega, by omega, trivial⟩ 9 (.int .u64 x4)).set_ (by omega) ⟨by omega, by omega, trivial⟩ 10 (.int .i64 x5)
  rw [evA_set8, evA_set9, evA_set10] at T
  dsimp only at T
  generalize ((w1.setCell _ _).setCell _ _).setCell _ _ = w2 at T ⊢
  clear q4 f4 q5 f5 q2 f2 l4 l5 l2
  refine (etkA8 m6 T (by omega) (by omega) (by omega) HC.out hb hn hm HBY.out m7 x6 (by have := H6.out; have := H7.out; omega) X6.out (by have := H7.out; omega)).mono ?_
  clear T
  rintro r w1 ⟨rfl, T⟩
  go_wp2_with fail
  refine (etkA8 m7 T (by omega) (by omega) (by omega) HC.out hb hn hm HBY.out m8 x7 (by have := H7.out; have := H8.out; omega) X7.out (by have := H8.out; omega)).mono ?_
  clear T
  rintro r w1 ⟨rfl, T⟩
  go_wp2_with fail
  refine (etkA8 m8 T (by omega) (by omega) (by omega) HC.out hb hn hm HBY.out m9 x8 (by have := H8.out; have := H9.out; omega) X8.out (by have := H9.out; omega)).mono ?_
  clear T
  rintro r w1 ⟨rfl, T⟩
  obtain ⟨q4, f4, q5, f5, q2, f2, -⟩ := T.rules
  obtain ⟨l4, l5, l2, -⟩ := T.lts
  go_upto_region 13 with fail
  replace T := ((T.set_ (by omega) ⟨by omega, by omega, trivial⟩ 11 (.int .i64 (IntKind.i64.wrap x6))).set_ (by omega) ⟨by omega, by omega, trivial⟩ 12 (.int .u64 x7)).set_ (by omega) ⟨by omega, by omega, trivial⟩ 13 (.int .u64 x8)
  rw [evA_set11, evA_set12, evA_set13, IntWalk.i64_left] at T
  dsimp only at T
  generalize ((w1.setCell _ _).setCell _ _).setCell _ _ = w2 at T ⊢
  clear q4 f4 q5 f5 q2 f2 l4 l5 l2
  have M9 := Lib.hid (show (m9 : Int) = (m : Int) + 91 from by have := H9.out; omega)
  clear HC HBY H1 H2 H3 H4 H5 H6 H7 H8 H9 X0 X1 X3 X4 X5 X6 X7 X8 HE C8 B2 B2' hh
  rcases (show vb = false ∨ vb = true from by cases vb <;> simp) with rfl | rfl
  · obtain ⟨rfl, rfl⟩ : Vec.zero = D ∧ (5 : Int) = er := by simpa using HDE.out
    have hy : y = false := by
      cases y
      · rfl
      · have := HD.out rfl; cases this
    subst hy
    have hr := HR.out
    rw [if_neg (by decide)] at hr
    have HR2 := Lib.hid hr
    clear hr HR HD HDE C9 HEF
    obtain ⟨q4, f4, q5, f5, q2, f2, -⟩ := T.rules
    obtain ⟨l4, l5, l2, -⟩ := T.lts
    go_wp2_with fail
    replace T := T.setEv (by omega) ⟨by omega, by omega, trivial⟩ Ev.zero
    replace T : Trk w _ [(w.heap.size + 1 + 1, 3, #[.int .i64 (m9 : Int)]), (w.heap.size + 1, 41, evA Ev.zero)] := T.perm (by simp)
    replace T := T.set_ (by omega) ⟨by omega, trivial⟩ 0 (.int .i64 0)
    refine bodyPost_ret (v := .tuple #[.agg (evA Ev.zero), .int .i64 0, .int .i64 5]) (results_take (s1 := 4) (s2 := 5) (s3 := 6) (by kernel_rfl) _ (w.heap.size + 1) (w.heap.size + 1 + 1) Ev.zero 0 5 _ rfl rfl rfl (T.blk _ _ _ (by simp)) (T.blk _ _ _ List.mem_cons_self)) rfl ⟨by rw [HR2.out], T.below⟩
  · obtain ⟨rfl, rfl⟩ : E.d = D ∧ (0 : Int) = er := by simpa using HDE.out
    have c9 := C9.out
    rw [HEF.out] at c9
    have C9' := Lib.hid c9
    rcases (show y = false ∨ y = true from by cases y <;> simp) with rfl | rfl
    · have hr := HR.out
      rw [if_neg (by decide)] at hr
      have HR2 := Lib.hid hr
      clear hr HR HD HDE C9 HEF c9
      obtain ⟨q4, f4, q5, f5, q2, f2, -⟩ := T.rules
      obtain ⟨l4, l5, l2, -⟩ := T.lts
      go_wp2_with fail
      refine (C9'.out _).mono ?_
      rintro r w3 ⟨rfl, hb3⟩
      replace T := T.call hb3
      clear q4 f4 q5 f5 q2 f2 l4 l5 l2
      obtain ⟨q4, f4, q5, f5, q2, f2, -⟩ := T.rules
      obtain ⟨l4, l5, l2, -⟩ := T.lts
      go_wp2_with fail
      replace T := T.setEv (by omega) ⟨by omega, by omega, trivial⟩ Ev.zero
      replace T : Trk w _ [(w.heap.size + 1 + 1, 3, #[.int .i64 (m9 : Int)]), (w.heap.size + 1, 41, evA Ev.zero)] := T.perm (by simp)
      replace T := T.set_ (by omega) ⟨by omega, trivial⟩ 0 (.int .i64 0)
      refine bodyPost_ret (v := .tuple #[.agg (evA Ev.zero), .int .i64 0, .int .i64 5]) (results_take (s1 := 4) (s2 := 5) (s3 := 6) (by kernel_rfl) _ (w.heap.size + 1) (w.heap.size + 1 + 1) Ev.zero 0 5 _ rfl rfl rfl (T.blk _ _ _ (by simp)) (T.blk _ _ _ List.mem_cons_self)) rfl ⟨by rw [HR2.out], T.below⟩
    · have hr := HR.out
      rw [if_pos rfl, HEF.out, ← M9.out] at hr
      have HR2 := Lib.hid hr
      clear hr HR HD HDE C9 HEF c9
      obtain ⟨q4, f4, q5, f5, q2, f2, -⟩ := T.rules
      obtain ⟨l4, l5, l2, -⟩ := T.lts
      go_wp2_with fail
      refine (C9'.out _).mono ?_
      rintro r w3 ⟨rfl, hb3⟩
      replace T := T.call hb3
      clear q4 f4 q5 f5 q2 f2 l4 l5 l2
      obtain ⟨q4, f4, q5, f5, q2, f2, -⟩ := T.rules
      obtain ⟨l4, l5, l2, -⟩ := T.lts
      go_wp2_with fail
      go_region
      go_wp2_with fail
      replace T := T.setEv (by omega) ⟨by omega, by omega, trivial⟩ ⟨x0, x1, E.d, x3, x4, x5, wrap64 x6, x7, x8⟩
      replace T : Trk w _ [(w.heap.size + 1 + 1, 3, #[.int .i64 (m9 : Int)]), (w.heap.size + 1, 41, evA ⟨x0, x1, E.d, x3, x4, x5, wrap64 x6, x7, x8⟩)] := T.perm (by simp)
      replace T := T.set_ (by omega) ⟨by omega, trivial⟩ 0 (.int .i64 (m9 : Int))
      replace T := T.drew
      refine bodyPost_ret (v := .tuple #[.agg (evA ⟨x0, x1, E.d, x3, x4, x5, wrap64 x6, x7, x8⟩), .int .i64 (m9 : Int), .int .i64 0]) (results_take (s1 := 4) (s2 := 5) (s3 := 6) (by kernel_rfl) _ (w.heap.size + 1) (w.heap.size + 1 + 1) ⟨x0, x1, E.d, x3, x4, x5, wrap64 x6, x7, x8⟩ (m9 : Int) 0 _ rfl rfl rfl (T.blk _ _ _ (by simp)) (T.blk _ _ _ List.mem_cons_self)) rfl ⟨by rw [HR2.out], T.below⟩
end Go.Proofs.Ytolfnilickfneaa
namespace Go.Proofs.Ytolfnilickfneaa
set_option linter.unusedVariables false
set_option linter.unusedSimpArgs false
open Go.RowKit

theorem etake (A : Option Addr) (cap : Nat) (l : List Int) (B : Nat) (at_ : Int) (w : World) (hL : BRows w B A l) (hB : B ≤ w.heap.size) (hn : l.length ≤ cap) (hm : cap ≤ maxLen) (hby : ∀ c ∈ l, 0 ≤ c ∧ c ≤ 255) (a0 : -9223372036854775808 ≤ at_) (a1 : at_ ≤ 9223372036854775807) :
    Calls Try.prog 28 #[.slice A l.length cap, .int .i64 at_] w (GivesT (takeE l at_) w) := by
  by_cases h : at_ < 0 ∨ (l.length : Int) < at_
  · rw [takeE_out h]
    exact etake_out A l.length cap at_ w hn hm a0 a1 h
  · obtain ⟨m, rfl⟩ : ∃ m : Nat, at_ = m := ⟨at_.toNat, by omega⟩
    by_cases hs : l.length < m + 91
    · rw [takeE_short (by omega) (by omega) (by omega)]
      exact etake_short A l.length cap m w hn hm (by omega) hs
    · obtain ⟨b, o, rfl, hlt, hc⟩ := hL (by rintro rfl; simp at hs)
      exact etake_in b o cap l m w hc (by omega) hn hm hby (by omega)
/-- A slice of bytes as a string, one operation of a walk. -/
theorem wpList_conv {ops : Array Oper} {rest : List Oper} {o : Oper} {a : Act} {Q : Exit → Act → World → Prop} (w : World) (hw : Region.wanted o (yielded ops a.tmps) = true) (x : Operand) (ho : o.op = .convert 42 9 x) (z : Value) (hx : a.eval x = z) (l : List Int) (hz : BytesIs l z w)
    (h : wpList Try.prog ops Q rest (a.put o.dst (.string (strOfNums l))) w) : wpList Try.prog ops Q (o :: rest) a w := by
  have hr := run_conv_bytes 42 5 9 Try.underlying42 Try.underlying5 Try.underlying9 hz
  unfold wpList
  rw [if_pos hw]
  refine .inl ?_
  unfold Oper.wp execOp
  rw [ho]
  simp only [hx]
  simp [hr]
  exact h
def ex8 : Ev := ⟨1, 1, Vec.zero, 1, 0, 0, 5, 0, 0⟩
def ex8x : Ev := ⟨1, 1, Vec.zero, 1, 0, 0, 5, 1, 0⟩
theorem ex8_ok : ex8.ok := ⟨by decide, by decide, Vec.ok_zero, by decide, by decide, by decide, by decide, by decide, by decide⟩
theorem ex8x_ok : ex8x.ok := ⟨by decide, by decide, Vec.ok_zero, by decide, by decide, by decide, by decide, by decide, by decide⟩
theorem ex8_may : emayB ex8 = true := by decide +kernel
theorem ex8x_may : emayB ex8x = false := by decide +kernel
theorem ex8_take : takeE (evL ex8) 0 = (ex8, 91, 0) := by decide +kernel
theorem ex8_id : idE ex8 = 1099511627777 := by decide +kernel
theorem ex8_str : strOfNums ((evL ex8).take 9) = ⟨#[1, 0, 0, 0, 0, 0, 0, 0, 1]⟩ := by decide +kernel
end Go.Proofs.Ytolfnilickfneaa
