/-
  The walk of the document's package leatref11: does, where a node is raised and where rights are moved.
-/
import Derived.Test.YtgbbhkdaalnchaaLm
namespace Go.Proofs.Ytgbbhkdaalnchaa
set_option linter.unusedVariables false
set_option linter.unusedSimpArgs false
open Go.RowKit Go Go.BigFrame
set_option maxRecDepth 100000

section
variable {w w' : World} {base g : Nat} {inn : Nat → Bool} {kn : Vec} {vn vg : Value} {gt : Nat} {vl : Value} {vr : Nat → Value} {ns : List Nd} {gs : List Grt} {t : List Tn} {rs : Nat → List Int} {cnt : Nat}
set_option maxHeartbeats 4000000 in
theorem ldoes2 (h : Led w base g inn kn vn vg gt vl vr ns gs t rs) (ok : LOk ns gs t rs cnt) (e : Ev) (ho : e.ok) (k : Nat) (hk : k < 6) (hek : e.o = (k : Int) + 1) (hc : cnt ≤ 900) (hk1 : e.k = 2) :
    Calls Try.prog 63 #[.pointer (some ⟨g, 0, none⟩), .agg (evA e)] w (DoesPost base g kn (cnt + 1) w) := by
  obtain ⟨An, cn, rfl, hcn, hmn⟩ := h.rn.sl
  unfold maxLen at hmn
  obtain ⟨o, s, d, kd, n, tt, am, rq, f⟩ := e
  obtain rfl : o = (k : Int) + 1 := hek
  obtain rfl : kd = 2 := hk1
  have T0 : Trk w _ [(w.heap.size, 32, evA (⟨(k : Int) + 1, s, d, 2, n, tt, am, rq, f⟩ : Ev))] := (Trk.nil w).push (t := 32) (cs := evA (⟨(k : Int) + 1, s, d, 2, n, tt, am, rq, f⟩ : Ev)) rfl
  have HO := Lib.hid ok
  have hbs := h.lt
  have hns : ns.length ≤ 32 := by have := ok.len; have := ok.l32; omega
  have k0 : (0 : Int) ≤ (k : Int) := by omega
  have k6 : (k : Int) < 6 := by omega
  have hL := h.call T0.below
  have CN := Lib.hid (lnode hL n)
  have Y0 := Lib.hid (And.intro hL (And.intro (T0.below.mono hbs) (T0.blk w.heap.size 32 (evA (⟨(k : Int) + 1, s, d, 2, n, tt, am, rq, f⟩ : Ev)) (by simp))))
  obtain ⟨q1, -, -⟩ := T0.rules
  have lt := T0.lt
  clear h ok T0 ho hL
  generalize hW : w.alloc (.cells (evA (⟨(k : Int) + 1, s, d, 2, n, tt, am, rq, f⟩ : Ev)) 32) = W at CN Y0 q1 lt
  have HW := Lib.hid hW
  clear hW
  rcases seek_cases (ndId n) ns with ⟨hm, _⟩ | ⟨j, x, hm, hx, _⟩
  · rw [hm] at CN
    clear hm
    go_enter Try.func63, Try.ntmps63
    go_upto_region 5 with fail
    rw [HW.out]
    go_wp2_with fail
    refine CN.out.mono ?_
    rintro r w1 ⟨rfl, rfl⟩
    go_wp2_with fail
    go_ret
    exact DoesPost.no (by decide) Y0.out.2.1
  rw [hm] at CN
  have hjl : j < ns.length := (List.getElem?_eq_some_iff.1 hx).1
  have hL := Y0.out.1
  obtain ⟨gn, cn2, e0, -, -, -, lgn⟩ := hL.rn.sl_pos (by omega)
  injection e0 with e1 e2 e3
  subst e1; subst e3
  obtain ⟨q, -⟩ := hL.blk.rules
  have lg := hL.blk.lt
  have HX := Lib.hid hx
  have dj : decide ((j : Int) < 0) = false := by simp
  clear e2 hm hx
  have hr : W.cell? ⟨gn, j * 56 + 2 + k, none⟩ = some (.int .i64 (x.r k)) := nd_rights hL.rn HX.out k _ (rtA_get x.r k (by omega))
  clear hL
  obtain ⟨b, hb⟩ : ∃ b, decide (140737488355328 < wrap64 (x.r k + am)) = b := ⟨_, rfl⟩
  go_enter Try.func63, Try.ntmps63
  go_upto_region 5 with fail
  rw [HW.out]
  go_wp2_with fail
  refine CN.out.mono ?_
  rintro r w1 ⟨rfl, rfl⟩
  clear CN
  go_upto_region 8 with fail
  go_quiet (fail)
  clear q q1 hr
  have hB := below_drewN (Below.refl W.heap.size W) nq
  have Y1 := Lib.hid (And.intro (Y0.out.1.call hB) (And.intro (Y0.out.2.1.trans (hB.mono Y0.out.1.lt)) (Y0.out.2.2.call hB)))
  have l1 : gn < (W.drewN nq).heap.size := lgn
  clear lgn lg lt HW
  generalize W.drewN nq = W1 at Y1 l1 ⊢
  clear hB Y0
  rcases (show b = true ∨ b = false from by cases b <;> simp) with rfl | rfl
  · go_wp2_with fail
    go_ret
    exact DoesPost.no (by decide) Y1.out.2.1
  have hL := Y1.out.1
  obtain ⟨hRc, hKc⟩ := (hL.call (Below.refl _ _).drew).rn.cell ndA_size HX.out (y := { x with r := fset x.r k (wrap64 (x.r k + am)) }) (2 + k) (.int .i64 (wrap64 (x.r k + am))) (by omega) (ndA_set x k (by omega) _).symm (ts := [112]) (by simp)
  rw [← Nat.add_assoc] at hRc hKc
  have hs1 : (W1.setCell ⟨gn, j * 56 + 2 + k, none⟩ (.int .i64 (wrap64 (x.r k + am)))).drew = W1.drew.setCell ⟨gn, j * 56 + 2 + k, none⟩ (.int .i64 (wrap64 (x.r k + am))) := by simp [World.setCell_drew]
  rw [← hs1] at hRc hKc
  have K7 : Kt base [46, 112] W1 (W1.setCell ⟨gn, j * 56 + 2 + k, none⟩ (.int .i64 (wrap64 (x.r k + am)))).drew := Kt.drew.trans (hKc.more (by simp))
  have hr : W1.cell? ⟨gn, j * 56 + 2 + k, none⟩ = some (.int .i64 (x.r k)) := nd_rights hL.rn HX.out k _ (rtA_get x.r k (by omega))
  have hfz := hL.rn.frozen
  have hL7 := hL.nodes K7 (hKc.blk _ _ _ hL.blk.drew (by decide)) hRc
  obtain ⟨q, -⟩ := hL.blk.rules
  obtain ⟨q1, -⟩ := Y1.out.2.2.rules
  have lg := hL.blk.lt
  have lt := Y1.out.2.2.lt
  have X := Lib.hid (And.intro hL7 (Y1.out.2.1.trans K7.below))
  clear hL hRc hKc hs1 K7 hL7
  go_upto_region 10 with fail
  go_region
  clear q q1 hr hfz lg lt
  go_wp2_with fail
  go_ret
  exact ⟨0, rfl, X.out.2, fun _ => ⟨_, _, _, _, _, _, _, _, _, _, X.out.1, LOk.mono (cnt := cnt) (HO.out.same (ids_set HX.out (y := ⟨x.id, x.p, _⟩) rfl)) (by omega)⟩⟩
set_option maxHeartbeats 4000000 in
theorem ldoes5 (h : Led w base g inn kn vn vg gt vl vr ns gs t rs) (ok : LOk ns gs t rs cnt) (e : Ev) (ho : e.ok) (k : Nat) (hk : k < 6) (hek : e.o = (k : Int) + 1) (hc : cnt ≤ 900) (hk1 : e.k = 5) :
    Calls Try.prog 63 #[.pointer (some ⟨g, 0, none⟩), .agg (evA e)] w (DoesPost base g kn (cnt + 1) w) := by
  obtain ⟨An, cn, rfl, hcn, hmn⟩ := h.rn.sl
  unfold maxLen at hmn
  obtain ⟨o, s, d, kd, n, tt, am, rq, f⟩ := e
  obtain rfl : o = (k : Int) + 1 := hek
  obtain rfl : kd = 5 := hk1
  have T0 : Trk w _ [(w.heap.size, 32, evA (⟨(k : Int) + 1, s, d, 5, n, tt, am, rq, f⟩ : Ev))] := (Trk.nil w).push (t := 32) (cs := evA (⟨(k : Int) + 1, s, d, 5, n, tt, am, rq, f⟩ : Ev)) rfl
  have HO := Lib.hid ok
  have hbs := h.lt
  have hns : ns.length ≤ 32 := by have := ok.len; have := ok.l32; omega
  have k0 : (0 : Int) ≤ (k : Int) := by omega
  have k6 : (k : Int) < 6 := by omega
  have hL := h.call T0.below
  have CN := Lib.hid (lnode hL n)
  have Y0 := Lib.hid (And.intro hL (And.intro (T0.below.mono hbs) (T0.blk w.heap.size 32 (evA (⟨(k : Int) + 1, s, d, 5, n, tt, am, rq, f⟩ : Ev)) (by simp))))
  obtain ⟨q1, -, -⟩ := T0.rules
  have lt := T0.lt
  clear h ok T0 ho hL
  generalize hW : w.alloc (.cells (evA (⟨(k : Int) + 1, s, d, 5, n, tt, am, rq, f⟩ : Ev)) 32) = W at CN Y0 q1 lt
  have HW := Lib.hid hW
  clear hW
  rcases seek_cases (ndId n) ns with ⟨hm, _⟩ | ⟨j, x, hm, hx, _⟩
  · rw [hm] at CN
    clear hm
    go_enter Try.func63, Try.ntmps63
    go_upto_region 16 with fail
    rw [HW.out]
    go_wp2_with fail
    refine CN.out.mono ?_
    rintro r w1 ⟨rfl, rfl⟩
    go_wp2_with fail
    go_ret
    exact DoesPost.no (by decide) Y0.out.2.1
  rw [hm] at CN
  have hjl : j < ns.length := (List.getElem?_eq_some_iff.1 hx).1
  have hL := Y0.out.1
  obtain ⟨gn, cn2, e0, -, -, -, lgn⟩ := hL.rn.sl_pos (by omega)
  injection e0 with e1 e2 e3
  subst e1; subst e3
  obtain ⟨q, -⟩ := hL.blk.rules
  have lg := hL.blk.lt
  have HX := Lib.hid hx
  have dj : decide ((j : Int) < 0) = false := by simp
  clear e2 hm hx
  have hR : Rng W gn (j * 56 + 2) (rtA x.r) := nd_rights hL.rn HX.out
  clear hL
  obtain ⟨b1, hb1⟩ : ∃ b, decide (tt < 1) = b := ⟨_, rfl⟩
  obtain ⟨b2, hb2⟩ : ∃ b, decide (6 < tt) = b := ⟨_, rfl⟩
  rcases (show (b1 = true ∨ (b1 = false ∧ b2 = true)) ∨ (b1 = false ∧ b2 = false) from by cases b1 <;> cases b2 <;> simp) with (rfl | ⟨rfl, rfl⟩) | ⟨rfl, rfl⟩
  · go_enter Try.func63, Try.ntmps63
    go_upto_region 16 with fail
    rw [HW.out]
    go_wp2_with fail
    refine CN.out.mono ?_
    rintro r w1 ⟨rfl, rfl⟩
    go_upto_region 19 with fail
    go_quiet (fail)
    go_wp2_with fail
    go_ret
    exact DoesPost.no (by decide) (below_drewN Y0.out.2.1 _)
  · go_enter Try.func63, Try.ntmps63
    go_upto_region 16 with fail
    rw [HW.out]
    go_wp2_with fail
    refine CN.out.mono ?_
    rintro r w1 ⟨rfl, rfl⟩
    go_upto_region 19 with fail
    go_quiet (fail)
    go_wp2_with fail
    go_ret
    exact DoesPost.no (by decide) (below_drewN Y0.out.2.1 _)
  obtain ⟨m, hm, rfl⟩ : ∃ m : Nat, m < 6 ∧ tt = (m : Int) + 1 := ⟨(tt - 1).toNat, by simp at hb1 hb2; omega, by simp at hb1; omega⟩
  have m0 : (0 : Int) ≤ (m : Int) := by omega
  have m6 : (m : Int) < 6 := by omega
  have ci := ledA_in inn kn (.slice (some ⟨gn, 0, none⟩) ns.length cn) vg gt vr m hm
  obtain ⟨b3, hb3⟩ : ∃ b, inn m = b := ⟨_, rfl⟩
  rw [hb3] at ci
  have o1 : IntKind.i64.wrap ((m : Int) + 1 - 1) = (m : Int) := by rw [show (m : Int) + 1 - 1 = (m : Int) from by omega]; exact IntWalk.i64_in _ (by omega)
  have hL1 := Lib.hid hb3
  clear hb3
  rcases (show b3 = false ∨ b3 = true from by cases b3 <;> simp) with rfl | rfl
  · go_enter Try.func63, Try.ntmps63
    go_upto_region 16 with fail
    rw [HW.out]
    go_wp2_with fail
    refine CN.out.mono ?_
    rintro r w1 ⟨rfl, rfl⟩
    go_upto_region 19 with fail
    go_quiet (fail)
    go_wp2_with fail
    go_ret
    exact DoesPost.no (by decide) (below_drewN Y0.out.2.1 _)
  go_enter Try.func63, Try.ntmps63
  go_upto_region 16 with fail
  rw [HW.out]
  go_wp2_with fail
  refine CN.out.mono ?_
  rintro r w1 ⟨rfl, rfl⟩
  clear CN
  go_upto_region 19 with fail
  go_quiet (fail)
  clear q q1 hb1 hb2 ci o1
  have hB := below_drewN (Below.refl W.heap.size W) nq
  have Y1 := Lib.hid (And.intro (Y0.out.1.call hB) (And.intro (Y0.out.2.1.trans (hB.mono Y0.out.1.lt)) (Y0.out.2.2.call hB)))
  have l1 : gn < (W.drewN nq).heap.size := lgn
  clear lgn lg lt HW hR
  generalize W.drewN nq = wo at Y1 l1 ⊢
  clear hB Y0
  have hR : Rng wo gn (j * 56 + 2) (rtA x.r) := nd_rights Y1.out.1.rn HX.out
  have hldx : ∀ X : Later wo, (ldR 110 (.pointer (some ⟨gn, j * 56 + 2, none⟩))).run Try.prog X.w = .ok (.value (.agg (rtA x.r))) X.w := fun X =>
    run_ldR (fun a v hv => by rw [X.cell gn _ l1]; exact hR a v hv) Try.underlying110 rfl (size_rt _)
  obtain ⟨q, -⟩ := Y1.out.1.blk.rules
  obtain ⟨q1, -⟩ := Y1.out.2.2.rules
  have lg := Y1.out.1.blk.lt
  have lE := Y1.out.2.2.lt
  clear hR
  go_upto_region 21 with fail
  refine wp_region_ls (C := fun w' => ∃ x : Later wo, w' = x.w) 15 (rtE wo) (by kernel_rfl) (by simp) (by kernel_rfl) (by kernel_rfl) ⟨⟨_, (Below.refl _ _).drew⟩, rfl⟩ (fun _ _ => Srt.refl) ?_
  simp only [List.take_succ_cons, List.take_zero, List.drop_succ_cons, List.drop_zero]
  repeat (go_big_quiet_step (fail))
  refine wpQuiet_nil ?_
  intro F0 hF0
  clear q q1 hldx
  refine lr_call rfl rfl 74 #[.agg (rtA x.r), .int .i64 ((k : Int) + 1), .int .i64 ((m : Int) + 1), .int .i64 am] (by intro W0; simp [go_sem] <;> rfl) (fun W0 => rmove x.r k hk ((m : Int) + 1) am W0) ?_
  rintro u13 ⟨f1, n1, rfl⟩
  refine lr_pure rfl isTup _ rfl (.tuple #[.agg (rtA f1), .int .i64 n1]) ⟨f1, n1, rfl⟩ (fun W0 => by simp [execOp, go_sem]) ?_
  rintro u14 ⟨f2, n2, rfl⟩
  refine lr_pure rfl isRt _ rfl (.agg (rtA f2)) ⟨f2, rfl⟩ (fun W0 => by simp [execOp, go_sem]) ?_
  rintro u15 ⟨f3, rfl⟩
  refine lr_pure rfl isInt _ rfl (.int .i64 n2) ⟨n2, rfl⟩ (fun W0 => by simp [execOp, go_sem]) ?_
  rintro u16 ⟨n3, rfl⟩
  refine lr_new rfl rfl (fun W0 => by simp [execOp, go_sem]) ?_
  rintro u17 ⟨g8, rfl⟩
  refine lr_store rfl rfl 19 _ rfl (Or.inl ⟨rfl, rfl⟩) rfl f3 (fun W0 => by simp [go_sem]) ?_
  refine lr_pure rfl isInt _ rfl (.int .i64 n3) ⟨n3, rfl⟩ (fun W0 => by simp [execOp, go_sem]) ?_
  rintro u19 ⟨n4, rfl⟩
  rintro w5 ⟨x5, rfl⟩ hF5
  obtain ⟨g9, e9, hg9, f9, hb9⟩ := lr_end (k := 19) (Or.inr (Or.inr (Or.inl ⟨rfl, rfl⟩))) rfl hF5
  obtain rfl : g8 = g9 := by simpa using e9
  have hb5 := x5.below
  have Y5 := Lib.hid (And.intro (Y1.out.1.call hb5) (Y1.out.2.1.trans (hb5.mono Y1.out.1.lt)))
  generalize x5.w = W5 at Y5 hb9 ⊢
  clear hF5 hF0 e9 hb5 lE lg Y1
  by_cases hn4 : n4 = 0
  rotate_left
  · have dn : (n4 != 0) = true := by simp [hn4]
    have HN := Lib.hid hn4
    clear hn4
    go_wp2_with fail
    go_ret
    exact DoesPost.no HN.out Y5.out.2
  subst hn4
  have hL5 := Y5.out.1
  obtain ⟨w6, hst, hR6, hK6⟩ := (hL5.rn.call (Below.refl _ _).drew).put (P := Try.prog) ndA_size (i := j) hjl HX.out 110 2 (rtA f9) (size_rt f9) (by rw [rtA_size]; omega) (rtA_cell f9) (y := { x with r := f9 }) (ndA_put x f9) (ts := [112]) (by simp)
  have hld := run_ldR (P := Try.prog) hb9.drew.rng Try.underlying110 rfl (size_rt f9)
  obtain ⟨q, -⟩ := hL5.blk.rules
  have lg := hL5.blk.lt
  have K6 : Kt base [112] W5 w6 := Kt.drew.trans hK6
  have X := Lib.hid (And.intro (hL5.nodes (K6.more (by simp)) (K6.blk _ _ _ hL5.blk (by decide)) hR6) (Y5.out.2.trans K6.below))
  clear hL5 hR6 hK6 K6 hb9
  go_upto_region 24 with fail
  go_region
  clear q lg hst hld Y5
  go_wp2_with fail
  go_ret
  exact ⟨0, rfl, X.out.2, fun _ => ⟨_, _, _, _, _, _, _, _, _, _, X.out.1, LOk.mono (cnt := cnt) (HO.out.same (ids_set HX.out (y := ⟨x.id, x.p, _⟩) rfl)) (by omega)⟩⟩
end
end Go.Proofs.Ytgbbhkdaalnchaa
