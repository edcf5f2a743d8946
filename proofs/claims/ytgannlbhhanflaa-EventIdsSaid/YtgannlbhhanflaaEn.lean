/-
  The walk of EventIds.
-/
import Derived.Test.YtgannlbhhanflaaEm
import Derived.Test.YtgannlbhhanflaaEnP
namespace Go.Proofs.Ytgannlbhhanflaa
open Go.RowKit

set_option maxHeartbeats 2000000 in
theorem ids_no (a b : Ev) (oa : a.ok) (ob : b.ok) (ma mb : Bool) (ha : emayB a = ma) (hb : emayB b = mb) (h : (ma && mb) = false) (w : World) :
    Calls Try.prog 4 #[.agg (evA a), .agg (evA b)] w fun r w' => r = .returned (.bool true) ∧ Below w.heap.size w w' := by
  have C1 := Lib.hid (emay' a oa ma ha)
  have C2 := Lib.hid (emay' b ob mb hb)
  clear ha hb oa ob
  rcases (show ma = false ∨ ma = true from by cases ma <;> simp) with rfl | rfl
  · clear h
    go_enter Try.func4, Try.ntmps4
    go_wp2_with fail
    have T0 : Trk w _ [(w.heap.size + 1, 40, evA b), (w.heap.size, 40, evA a)] := ((Trk.nil w).push (t := 40) (cs := evA a) rfl).push (t := 40) (cs := evA b) (g := w.heap.size + 1) (by simp)
    refine (C1.out _).mono ?_
    rintro r w1 ⟨rfl, hb1⟩
    have T1 := T0.call hb1
    clear T0 hb1
    go_wp2_with fail
    refine (works08 _).mono ?_
    rintro r w2 ⟨rfl, hb2⟩
    have T2 := T1.call hb2
    go_wp2_with fail
    go_ret
    exact ⟨rfl, T2.below⟩
  · obtain rfl : mb = false := by simpa using h
    clear h
    go_enter Try.func4, Try.ntmps4
    go_wp2_with fail
    have T0 : Trk w _ [(w.heap.size + 1, 40, evA b), (w.heap.size, 40, evA a)] := ((Trk.nil w).push (t := 40) (cs := evA a) rfl).push (t := 40) (cs := evA b) (g := w.heap.size + 1) (by simp)
    refine (C1.out _).mono ?_
    rintro r w1 ⟨rfl, hb1⟩
    have T1 := T0.call hb1
    clear T0 hb1
    obtain ⟨q1, -, q0, -, -⟩ := T1.rules
    obtain ⟨l1, l0, -⟩ := T1.lts
    go_wp2_with fail
    refine (C2.out _).mono ?_
    rintro r w2 ⟨rfl, hb2⟩
    have T2 := T1.call hb2
    clear T1 hb2 q0 q1 l0 l1
    go_wp2_with fail
    refine (works08 _).mono ?_
    rintro r w3 ⟨rfl, hb3⟩
    have T3 := T2.call hb3
    go_wp2_with fail
    go_ret
    exact ⟨rfl, T3.below⟩
set_option maxHeartbeats 4000000 in
set_option maxRecDepth 100000 in
theorem ids_yes (a b : Ev) (oa : a.ok) (ob : b.ok) (ha : emayB a = true) (hb : emayB b = true) (w : World) :
    Calls Try.prog 4 #[.agg (evA a), .agg (evA b)] w fun r w' => r = .returned (.bool true) ∧ Below w.heap.size w w' := by
  have C1 := Lib.hid (emay' a oa true ha)
  have C2 := Lib.hid (emay' b ob true hb)
  have C3 := Lib.hid (eid a oa)
  have C4 := Lib.hid (eid b ob)
  have C5 := Lib.hid (eput a oa)
  have C6 := Lib.hid (eput b ob)
  have hid := idE_eq (may_of ha) (may_of hb)
  have hst := put_str_eq oa ob ha hb
  generalize idE a = ia at hid C3
  generalize idE b = ib at hid C4
  generalize putE a = pa at hst C5
  generalize putE b = pb at hst C6
  obtain ⟨so, hso⟩ : ∃ v, (a.o == b.o) = v := ⟨_, rfl⟩
  obtain ⟨ss, hss⟩ : ∃ v, (a.s == b.s) = v := ⟨_, rfl⟩
  obtain ⟨eq, heq⟩ : ∃ v, decide (a = b) = v := ⟨_, rfl⟩
  have hid' : (ia == ib) = (so && ss) := by rw [hid, ← hso, ← hss]; rfl
  rw [heq] at hst
  have HI := Lib.hid hid'
  have HS := Lib.hid hst
  have HE := Lib.hid heq
  have HSO := Lib.hid hso
  have HSS := Lib.hid hss
  clear ha hb oa ob hid hst hso hss heq hid'
  have key : ∀ sm : Bool, (so && ss) = sm → Calls Try.prog 4 #[.agg (evA a), .agg (evA b)] w fun r w' => r = .returned (.bool true) ∧ Below w.heap.size w w' := by
    intro sm hsm
    have hsm' : (ia == ib) = sm := by rw [HI.out, hsm]
    have HM := Lib.hid hsm'
    have HSM := Lib.hid hsm
    clear hsm hsm' HI
    go_enter Try.func4, Try.ntmps4
    go_wp2_with fail
    have T0 : Trk w _ [(w.heap.size + 1, 40, evA b), (w.heap.size, 40, evA a)] := ((Trk.nil w).push (t := 40) (cs := evA a) rfl).push (t := 40) (cs := evA b) (g := w.heap.size + 1) (by simp)
    refine (C1.out _).mono ?_
    rintro r w1 ⟨rfl, hb1⟩
    have T1 := T0.call hb1
    clear T0 hb1
    obtain ⟨q1, -, q0, -, -⟩ := T1.rules
    obtain ⟨l1, l0, -⟩ := T1.lts
    go_wp2_with fail
    refine (C2.out _).mono ?_
    rintro r w2 ⟨rfl, hb2⟩
    have T2 := T1.call hb2
    clear T1 hb2 q0 q1 l0 l1
    obtain ⟨q1, -, q0, -, -⟩ := T2.rules
    obtain ⟨l1, l0, -⟩ := T2.lts
    go_upto_region 3 with fail
    go_cut [5] (fun s5 wx => s5 = .bool sm ∧ wx = w2)
    case first =>
      have hso := HSO.out
      rcases (show so = false ∨ so = true from by cases so <;> simp) with rfl | rfl
      · go_wp2_with fail
        all_goals go_meet
        all_goals exact ⟨by rw [← HSM.out]; rfl, rfl⟩
      · have hss := HSS.out
        go_wp2_with fail
        all_goals go_meet
        all_goals exact ⟨by rw [← HSM.out]; rfl, rfl⟩
    case rest =>
      obtain ⟨rfl, rfl⟩ := hcut
      go_upto_region 4 with fail
      have hM := HM.out
      have hS := HS.out
      have hE := HE.out
      refine lw_region [.is (.agg (evA a)), .is (.int .u64 ia), .is (.agg (evA b)), .is (.int .u64 ib), .is (.bool sm), .is (.bool sm), .is (.bool true), .is (.bool true),
        .is (.agg (evA a)), .bytes pa, .is (.string (strOfNums pa)), .is (.agg (evA b)), .bytes pb, .is (.string (strOfNums pb)), .is (.bool eq), .is (.agg (evA a)), .is (.agg (evA b)), .is (.bool eq), .is (.bool true), .is (.bool true), .is (.bool true), .is (.bool true), .is (.bool true), .is (.bool true)] (by kernel_rfl) (by kernel_rfl) ?_
      repeat
        first
          | refine lw_skip rfl ?_
          | refine lw_loade T2 rfl _ rfl _ _ rfl rfl (by simp) ?_
          | refine lw_move rfl _ rfl _ rfl rfl ?_
          | refine lw_assign rfl _ rfl _ rfl rfl ?_
          | refine lw_pickT rfl _ _ _ rfl rfl _ rfl rfl ?_
          | refine lw_convR rfl _ rfl 9 _ rfl (by rfl) (by repeat (first | exact Or.inl ⟨rfl, rfl⟩ | apply Or.inr)) _ rfl rfl ?_
          | refine lw_convR rfl _ rfl 12 _ rfl (by rfl) (by repeat (first | exact Or.inl ⟨rfl, rfl⟩ | apply Or.inr)) _ rfl rfl ?_
          | ((refine lw_call rfl 28 #[.agg (evA a)] _ rfl ?_ (fun w _ => C3.out w) ?_); (· intro w; simp [go_sem] <;> rfl))
          | ((refine lw_call rfl 28 #[.agg (evA b)] _ rfl ?_ (fun w _ => C4.out w) ?_); (· intro w; simp [go_sem] <;> rfl))
          | ((refine lw_call_rel rfl 29 #[.agg (evA a)] _ _ rfl ?_ (fun w _ => gives_rel (C5.out w)) ?_); (· intro w; simp [go_sem] <;> rfl); intro z)
          | ((refine lw_call_rel rfl 29 #[.agg (evA b)] _ _ rfl ?_ (fun w _ => gives_rel (C6.out w)) ?_); (· intro w; simp [go_sem] <;> rfl); intro z)
          | ((refine lw_call rfl 27 #[] _ rfl ?_ (fun w _ => works08 w) ?_); (· intro w; simp [go_sem] <;> rfl))
          | ((refine lw_bin rfl _ _ _ _ _ rfl _ _ rfl rfl _ rfl ?_ ?_); (· intro ρ w h1 h2; simp [execOp, h1, h2, go_sem, hM, hS, hE]))
        simp only [Act.put, List.setIfInBounds_toArray, List.set_cons_succ, List.set_cons_zero]
      intro w6 hb6
      have T6 := T2.call hb6
      go_wp2_with fail
      go_ret
      exact ⟨rfl, T6.below⟩
  exact key _ rfl
theorem ids_law (a b : Ev) (oa : a.ok) (ob : b.ok) (w : World) : Calls Try.prog 4 #[.agg (evA a), .agg (evA b)] w fun r w' => r = .returned (.bool true) ∧ Below w.heap.size w w' := by
  cases ha : emayB a with
  | false => exact ids_no a b oa ob false _ ha rfl rfl w
  | true => cases hb : emayB b with
    | false => exact ids_no a b oa ob true false ha hb rfl w
    | true => exact ids_yes a b oa ob ha hb w
end Go.Proofs.Ytgannlbhhanflaa
