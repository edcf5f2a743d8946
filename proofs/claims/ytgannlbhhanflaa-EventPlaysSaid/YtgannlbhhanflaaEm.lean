/-
  The walks of the laws of chapter 08: works, EventIds.
-/
import Derived.Test.YtgannlbhhanflaaEl
import Derived.Test.YtgannlbhhanflaaLwe
namespace Go.Proofs.Ytgannlbhhanflaa
set_option linter.unusedVariables false
set_option linter.unusedSimpArgs false
open Go.RowKit

set_option maxHeartbeats 2000000 in
theorem works08 (w : World) : Calls Try.prog 27 #[] w fun r w' => r = .returned (.bool true) ∧ Below w.heap.size w w' := by
  have c1 := fun W => eput ex8 ex8_ok W
  rw [putE_yes ex8_may] at c1
  have c2 := fun A cap B W h1 h2 h3 h4 => etake A cap (evL ex8) B 0 W h1 h2 h3 h4 (evL_range (may_of ex8_may)) (by decide) (by decide)
  rw [ex8_take] at c2
  have C3 := Lib.hid (emay' ex8 ex8_ok true ex8_may)
  have C4 := Lib.hid (emay' ex8x ex8x_ok false ex8x_may)
  have c5 := fun W => eid ex8 ex8_ok W
  rw [ex8_id] at c5
  have C5 := Lib.hid c5
  have c6 := fun W => eput ex8x ex8x_ok W
  rw [putE_no ex8x_may] at c6
  have C6 := Lib.hid c6
  have hlen : (evL ex8).length = 91 := rfl
  have hstr := ex8_str
  have hx8 : evA ⟨1, 1, Vec.zero, 1, 0, 0, 5, 0, 0⟩ = evA ex8 := rfl
  have hx8x : evA ⟨1, 1, Vec.zero, 1, 0, 0, 5, 1, 0⟩ = evA ex8x := rfl
  generalize hM : evL ex8 = M at c1 c2 hlen hstr
  have C1 := Lib.hid c1
  have C2 := Lib.hid c2
  have HS := Lib.hid hstr
  have HL := Lib.hid hlen
  have HX := Lib.hid hx8
  have HXX := Lib.hid hx8x
  clear c1 c2 c5 c6 hlen hstr hM hx8 hx8x
  go_enter Try.func27, Try.ntmps27
  go_wp2_with fail
  have T0 : Trk w _ [(w.heap.size + 1, 40, evA ex8x), (w.heap.size, 40, evA ex8)] := ((Trk.nil w).push (t := 40) (cs := evA ex8) rfl).push (t := 40) (cs := evA ex8x) (g := w.heap.size + 1) (by simp)
  rw [HX.out, HXX.out]
  generalize (w.alloc _).alloc _ = W0 at T0 ⊢
  refine (C1.out W0).mono ?_
  rintro r w1 ⟨u1, rfl, hown1, hb1⟩
  have T1 := T0.call hb1
  obtain ⟨A, c, hu, hc, hm, hR⟩ := own_open hown1
  rw [HL.out] at hu hc
  subst hu
  have hV := rd_brows hR
  have c2 := C2.out A c w1.heap.size w1 hV (Nat.le_refl _) (by rw [HL.out]; exact hc) hm
  rw [HL.out] at c2
  have c2 : Calls Try.prog 30 #[.slice A 91 c, .int .i64 0] w1 (fun e w' => e = .returned (.tuple #[.agg (evA ex8), .int .i64 91, .int .i64 0]) ∧ Below w1.heap.size w1 w') := c2
  have H2 := Lib.hid c2
  have HV := Lib.hid hV
  clear c2 hown1 hR hV T0 hb1
  go_wp2_with fail
  refine H2.out.mono ?_
  rintro r w2 ⟨rfl, hb2⟩
  have hV := (HV.out.below hb2)
  have T2 := (T1.call hb2).push (t := 40) (cs := evA ex8) rfl
  have hz : w1.heap.size ≤ (w2.alloc (.cells (evA ex8) 40)).heap.size := by have := hb2.size; simp; omega
  have hV := hV.below ((Below.refl w1.heap.size w2).alloc hb2.size (.cells (evA ex8) 40))
  clear T1
  go_upto_region 6 with fail
  have hbs : BytesIs (M.take 9) (.slice A 9 c) (w2.alloc (.cells (evA ex8) 40)) := by
    have h9 : (M.take 9).length = 9 := by rw [List.length_take, HL.out]; rfl
    refine ⟨A, c, by rw [h9], by rw [h9]; omega, hm, fun hne => ?_⟩
    obtain ⟨b, o, e, hlt, hcc⟩ := hV (by rintro rfl; simp at hne)
    exact ⟨b, o, e, Nat.lt_of_lt_of_le hlt hz, fun i x hi => hcc i x (by rw [List.getElem?_take] at hi; split at hi; exact hi; cases hi)⟩
  generalize hW : w2.alloc (.cells (evA ex8) 40) = W2 at T2 hbs hz ⊢
  generalize w2.heap.size = g2 at T2 ⊢
  clear hV hW
  obtain ⟨q2, -, q1, -, q0, -, -⟩ := T2.rules
  obtain ⟨l2, l1, l0, -⟩ := T2.lts
  go_wp2_with fail
  refine (C3.out _).mono ?_
  rintro r w3 ⟨rfl, hb3⟩
  have T3 := T2.call hb3
  have hbs := hbs.keep _ _ _ _ hb3
  clear q0 q1 q2 l0 l1 l2 T2 hb3
  obtain ⟨q2, -, q1, -, q0, -, -⟩ := T3.rules
  obtain ⟨l2, l1, l0, -⟩ := T3.lts
  go_wp2_with fail
  refine (C4.out _).mono ?_
  rintro r w4 ⟨rfl, hb4⟩
  have T4 := T3.call hb4
  have hbs := hbs.keep _ _ _ _ hb4
  clear q0 q1 q2 l0 l1 l2 T3 hb4
  obtain ⟨q2, -, q1, -, q0, -, -⟩ := T4.rules
  obtain ⟨l2, l1, l0, -⟩ := T4.lts
  have hss := HS.out
  go_wp2_with (with_reducible refine wpList_conv w4 rfl (.tmp 34) rfl _ rfl _ hbs ?_)
  refine (C5.out _).mono ?_
  rintro r w5 ⟨rfl, hb5⟩
  have T5 := T4.call hb5
  clear q0 q1 q2 l0 l1 l2 T4 hb5 hbs hss
  obtain ⟨q2, -, q1, -, q0, -, -⟩ := T5.rules
  obtain ⟨l2, l1, l0, -⟩ := T5.lts
  go_wp2_with fail
  refine (C6.out _).mono ?_
  rintro r w6 ⟨u6, rfl, hown6, hb6⟩
  obtain ⟨A6, c6, rfl, -⟩ := own_open hown6
  have T6 := T5.call hb6
  clear q0 q1 q2 l0 l1 l2 T5 hb6 hown6
  go_wp2_with fail
  go_ret
  exact ⟨rfl, T6.below⟩
end Go.Proofs.Ytgannlbhhanflaa
