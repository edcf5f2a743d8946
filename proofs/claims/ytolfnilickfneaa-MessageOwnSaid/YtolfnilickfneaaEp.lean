/-
  The walks of package event: Put.
-/
import Derived.Test.YtolfnilickfneaaEs
import Derived.Test.YtolfnilickfneaaOct
import Derived.Test.YtolfnilickfneaaGA
import Derived.Test.YtolfnilickfneaaGC
namespace Go.Proofs.Ytolfnilickfneaa
set_option linter.unusedVariables false
set_option linter.unusedSimpArgs false
open Go.RowKit

/-- Bytes are put behind those that a cell's slice has. -/
def PutsTo (w0 : World) (g : Nat) (bs : List (Nat × TypeId × Array Value)) (base : Nat) (l : List Int) (e : Ending) (w' : World) : Prop :=
  ∃ u, e = .returned (.tuple #[]) ∧ Trk w0 w' ((g, 42, #[u]) :: bs) ∧ w'.ownsRow base 5 1 u l.length (bcells l) ∧ base ≤ w'.heap.size
section
variable {w0 w : World} {g : Nat} {u : Value} {l : List Int} {bs : List (Nat × TypeId × Array Value)} {base : Nat}
theorem eput8 (n : Int) (T : Trk w0 w ((g, 42, #[u]) :: bs)) (hg : w0.heap.size ≤ g) (hN : Nes g bs) (hown : w.ownsRow base 5 1 u l.length (bcells l)) (hgb : g < base) (hbw : base ≤ w.heap.size) (hl : l.length ≤ 10000000) (h0 : 0 ≤ n) (h1 : n ≤ 18446744073709551615) :
    Calls Try.prog 66 #[.int .u64 n, .int .i64 8, .pointer (some ⟨g, 0, none⟩)] w (PutsTo w0 g bs base (l ++ wordL n)) := by
  obtain ⟨A, c, rfl, hc, hm, hR⟩ := own_open hown
  have C1 := Lib.hid (oput8 A c l w.heap.size n w (rd_brows hR) (Nat.le_refl _) hc hm (by omega) h0 h1)
  generalize hm : l ++ putL n 8 = m at C1
  have HM := Lib.hid hm
  clear hown hR hm
  obtain ⟨q0, f0, -⟩ := T.rules
  have l0 := T.lt
  go_enter Try.func66, Try.ntmps66
  go_wp2_with fail
  refine C1.out.mono ?_
  rintro e w1 ⟨v, rfl, hown1, hb1⟩
  obtain ⟨A1, c1, rfl, -⟩ := own_open hown1
  have T1 := T.call hb1
  clear q0 f0
  obtain ⟨q0, f0, -⟩ := T1.rules
  have l1 := T1.lt
  go_wp2_with fail
  go_end0
  rw [← putL_8, HM.out]
  refine ⟨_, rfl, T1.set_ hg hN 0 _, own_mono (own_far (p := ⟨g, 0, none⟩) hown1 (by show g < _; omega) _) hbw, ?_⟩
  have := hb1.size
  simp; omega
theorem eput1 (n : Int) (T : Trk w0 w ((g, 42, #[u]) :: bs)) (hg : w0.heap.size ≤ g) (hN : Nes g bs) (hown : w.ownsRow base 5 1 u l.length (bcells l)) (hgb : g < base) (hbw : base ≤ w.heap.size) (hl : l.length ≤ 10000000) (h0 : 0 ≤ n) (h1 : n ≤ 255) :
    Calls Try.prog 66 #[.int .u64 n, .int .i64 1, .pointer (some ⟨g, 0, none⟩)] w (PutsTo w0 g bs base (l ++ [n])) := by
  obtain ⟨A, c, rfl, hc, hm, hR⟩ := own_open hown
  have C1 := Lib.hid (oput1 A c l w.heap.size n w (rd_brows hR) (Nat.le_refl _) hc hm (by omega) h0 h1)
  rw [putL_1 n h0 (by omega)] at C1
  generalize hm : l ++ [n] = m at C1
  have HM := Lib.hid hm
  clear hown hR hm
  obtain ⟨q0, f0, -⟩ := T.rules
  have l0 := T.lt
  go_enter Try.func66, Try.ntmps66
  go_wp2_with fail
  refine C1.out.mono ?_
  rintro e w1 ⟨v, rfl, hown1, hb1⟩
  obtain ⟨A1, c1, rfl, -⟩ := own_open hown1
  have T1 := T.call hb1
  clear q0 f0
  obtain ⟨q0, f0, -⟩ := T1.rules
  have l1 := T1.lt
  go_wp2_with fail
  go_end0
  refine ⟨_, rfl, T1.set_ hg hN 0 _, own_mono (own_far (p := ⟨g, 0, none⟩) hown1 (by show g < _; omega) _) hbw, ?_⟩
  have := hb1.size
  simp; omega
end
theorem emay_t (e : Ev) (hv : e.ok) (b : Bool) (h : emayB e = b) (w : World) : Calls Try.prog 33 #[.agg (evA e)] w fun r w' => r = .returned (.bool b) ∧ Below w.heap.size w w' := emay' e hv b h w
set_option maxHeartbeats 1000000 in
theorem eput_no (e : Ev) (hv : e.ok) (h : emayB e = false) (w : World) : Calls Try.prog 35 #[.agg (evA e)] w (GivesB (putE e) w) := by
  have C1 := Lib.hid (emay' e hv false h)
  rw [putE_no h]
  clear h
  go_enter Try.func35, Try.ntmps35
  go_wp2_with (go_at_call 33; (with_reducible refine (C1.out _).mono ?_); rintro e w3 ⟨rfl, hb⟩)
  go_ret
  exact ⟨_, rfl, World.ownsRow_nil _ _ _ _, ((Below.refl _ _).alloc (Nat.le_refl _) _).trans (hb.mono (by simp))⟩
set_option maxHeartbeats 2000000 in
theorem eput_yes (e : Ev) (hv : e.ok) (h : emayB e = true) (w : World) : Calls Try.prog 35 #[.agg (evA e)] w (GivesB (putE e) w) := by
  have C1 := Lib.hid (emay' e hv true h)
  rw [putE_yes h]
  have hm := may_of h
  obtain ⟨o1, o2, s1, s2, k1, k2, t1, t2, a1, a2⟩ := hm
  have C2 := Lib.hid (vbytes e.d hv.d)
  have n1 := hv.n
  have r1 := hv.r
  have f1 := hv.f
  clear h hv
  go_enter Try.func35, Try.ntmps35
  go_upto_region 5 with (go_at_call 33; (with_reducible refine (C1.out _).mono ?_); rintro e' w3 ⟨rfl, hb⟩; have T0 := ((Trk.nil w).push (t := 41) (cs := evA e) rfl).call hb; clear hb)
  have T := T0.push (t := 42) (cs := #[.slice none 0 0]) rfl
  have hne : Nes w3.heap.size [(w.heap.size, 41, evA e)] := ⟨by have := T0.lt; omega, trivial⟩
  have hg3 : w.heap.size ≤ w3.heap.size := T0.below.size
  have hsz : w3.heap.size + 1 ≤ (w3.alloc (.cells #[.slice none 0 0] 42)).heap.size := by simp
  have hown : (w3.alloc (.cells #[.slice none 0 0] 42)).ownsRow (w3.heap.size + 1) 5 1 (.slice none 0 0) ([] : List Int).length (bcells []) := World.ownsRow_nil _ _ _ _
  generalize (w3.alloc (.cells #[.slice none 0 0] 42)) = w4 at T hsz hown ⊢
  generalize w3.heap.size = g3 at T hne hg3 hsz hown ⊢
  clear T0
  obtain ⟨q0, f0, q1, f1', -⟩ := T.rules
  obtain ⟨m0, hm0⟩ : ∃ m : List Int, m = [] := ⟨_, rfl⟩
  rw [← hm0] at hown
  have hl0 : m0.length ≤ 0 := by rw [hm0]; exact Nat.le_refl _
  have HM0 := Lib.hid hm0
  clear hm0
  go_wp2_with fail
  refine (eput1 e.o T hg3 hne hown (Nat.lt_succ_self _) hsz (by omega) (by omega) (by omega)).mono ?_
  clear T hown q0 q1 f0 f1' hsz
  rintro r w4 ⟨u, rfl, T, hown, hsz⟩
  obtain ⟨q0, f0, q1, f1', -⟩ := T.rules
  generalize hm1 : m0 ++ [e.o] = m1 at hown
  have hl1 : m1.length ≤ 1 := by rw [← hm1, List.length_append]; have : ([e.o]).length = 1 := rfl; omega
  have HM1 := Lib.hid hm1
  clear hm1
  go_wp2_with fail
  refine (eput8 e.s T hg3 hne hown (Nat.lt_succ_self _) hsz (by omega) (by omega) (by omega)).mono ?_
  clear T hown q0 q1 f0 f1' hsz
  rintro r w4 ⟨u, rfl, T, hown, hsz⟩
  obtain ⟨q0, f0, q1, f1', -⟩ := T.rules
  generalize hm2 : m1 ++ wordL e.s = m2 at hown
  have hl2 : m2.length ≤ 9 := by rw [← hm2, List.length_append]; have : (wordL e.s).length = 8 := rfl; omega
  have HM2 := Lib.hid hm2
  clear hm2
  obtain ⟨A, c, rfl, -⟩ := own_open hown
  go_wp2_with fail
  refine wp_region_post 4 [.is (.slice A m2.length c), .is (.pointer (some ⟨w.heap.size, 2, none⟩)), .is (.agg (vecA e.d)), .bytes (vecL e.d)] (by kernel_rfl) (by simp) (by kernel_rfl) (by kernel_rfl) (by kernel_rfl) (by kernel_rfl) ?_
  simp only [List.take_succ_cons, List.take_zero, List.drop_succ_cons, List.drop_zero]
  refine lw_val rfl _ rfl (fun W hb => ?_) ?_
  · obtain ⟨x0, -, x1, -, -⟩ := (T.call hb).rules
    obtain ⟨y0, y1, -⟩ := (T.call hb).lts
    simp [execOp, go_sem, x0, x1, y0, y1]
  refine lw_val rfl _ rfl (fun W hb => ?_) ?_
  · simp [execOp, go_sem]
  refine lw_val rfl _ rfl (fun W hb => ?_) ?_
  · obtain ⟨x0, -, x1, -, -⟩ := (T.call hb).rules
    obtain ⟨y0, y1, -⟩ := (T.call hb).lts
    simp [execOp, go_sem, x0, x1, y0, y1]
  refine lw_call_rel rfl 68 #[.agg (vecA e.d)] _ _ rfl ?_ (fun w _ => gives_rel (C2.out w)) ?_
  · intro W; simp [go_sem] <;> rfl
  intro z w5 hb5 hF
  obtain ⟨A5, c5, rfl, hc5, hm5, hR5⟩ : BytesIs (vecL e.d) z w5 := hF 3 z (Or.inl ⟨rfl, rfl⟩)
  have T5 := T.call hb5
  have hown5 := ownsRow_below hown hb5
  have hz5 := hb5.size
  clear hF T hown q0 q1 f0 f1' hb5
  have hvl : (vecL e.d).length ≤ 48 := Nat.le_refl _
  obtain ⟨M, hM⟩ : ∃ M, M = vecL e.d := ⟨_, rfl⟩
  rw [← hM] at hvl hR5
  have hvl' : (vecL e.d).length = M.length := by rw [hM]
  refine append_u8s _ rfl (.tmp 18) (.tmp 21) rfl (g3 + 1) _ m2 M rfl hown5 A5 c5 _ ?_ hR5 (by omega) (by omega) ?_
  · rw [← hvl']; rfl
  intro v' w6 hown hb6
  obtain ⟨A, c, rfl, -⟩ := own_open hown
  have T := T5.callB hb6 (by omega) ⟨Nat.lt_succ_self _, by omega, trivial⟩
  clear hown5 T5 hR5 hvl'
  have hsz : g3 + 1 ≤ w6.heap.size := Nat.le_trans (Nat.le_trans hsz hz5) hb6.size
  obtain ⟨q0, f0, q1, f1', -⟩ := T.rules
  obtain ⟨y0, y1, -⟩ := T.lts
  generalize hm3 : m2 ++ M = m3 at hown T
  have hl3 : m3.length ≤ 57 := by rw [← hm3, List.length_append]; omega
  have HM3 := Lib.hid hm3
  have HMM := Lib.hid hM
  clear hm3 hM
  have hown := own_far (p := ⟨g3, 0, none⟩) hown (Nat.lt_succ_self _) (.slice A m3.length c)
  have T := T.set_ hg3 hne 0 (.slice A m3.length c)
  go_wp2_with fail
  have hsz : g3 + 1 ≤ (w6.setCell ⟨g3, 0, none⟩ (.slice A m3.length c)).heap.size := by simp; exact hsz
  generalize w6.setCell ⟨g3, 0, none⟩ (.slice A m3.length c) = w7 at T hown hsz ⊢
  clear q0 f0 q1 f1' hb6 hz5
  obtain ⟨q0, f0, q1, f1', -⟩ := T.rules
  clear y0 y1
  refine (eput1 e.k T hg3 hne hown (Nat.lt_succ_self _) hsz (by omega) (by omega) (by omega)).mono ?_
  clear T hown q0 q1 f0 f1' hsz
  rintro r w4 ⟨u, rfl, T, hown, hsz⟩
  obtain ⟨q0, f0, q1, f1', -⟩ := T.rules
  generalize hm4 : m3 ++ [e.k] = m4 at hown
  have hl4 : m4.length ≤ 58 := by rw [← hm4, List.length_append]; have : ([e.k]).length = 1 := rfl; omega
  have HM4 := Lib.hid hm4
  clear hm4
  go_wp2_with fail
  refine (eput8 e.n T hg3 hne hown (Nat.lt_succ_self _) hsz (by omega) n1.1 n1.2).mono ?_
  clear T hown q0 q1 f0 f1' hsz
  rintro r w4 ⟨u, rfl, T, hown, hsz⟩
  obtain ⟨q0, f0, q1, f1', -⟩ := T.rules
  generalize hm5 : m4 ++ wordL e.n = m5 at hown
  have hl5 : m5.length ≤ 66 := by rw [← hm5, List.length_append]; have : (wordL e.n).length = 8 := rfl; omega
  have HM5 := Lib.hid hm5
  clear hm5
  go_wp2_with fail
  refine (eput1 e.t T hg3 hne hown (Nat.lt_succ_self _) hsz (by omega) (by omega) (by omega)).mono ?_
  clear T hown q0 q1 f0 f1' hsz
  rintro r w4 ⟨u, rfl, T, hown, hsz⟩
  obtain ⟨q0, f0, q1, f1', -⟩ := T.rules
  generalize hm6 : m5 ++ [e.t] = m6 at hown
  have hl6 : m6.length ≤ 67 := by rw [← hm6, List.length_append]; have : ([e.t]).length = 1 := rfl; omega
  have HM6 := Lib.hid hm6
  clear hm6
  go_wp2_with fail
  refine (eput8 e.a T hg3 hne hown (Nat.lt_succ_self _) hsz (by omega) (by omega) (by omega)).mono ?_
  clear T hown q0 q1 f0 f1' hsz
  rintro r w4 ⟨u, rfl, T, hown, hsz⟩
  obtain ⟨q0, f0, q1, f1', -⟩ := T.rules
  generalize hm7 : m6 ++ wordL e.a = m7 at hown
  have hl7 : m7.length ≤ 75 := by rw [← hm7, List.length_append]; have : (wordL e.a).length = 8 := rfl; omega
  have HM7 := Lib.hid hm7
  clear hm7
  go_wp2_with fail
  refine (eput8 e.r T hg3 hne hown (Nat.lt_succ_self _) hsz (by omega) r1.1 r1.2).mono ?_
  clear T hown q0 q1 f0 f1' hsz
  rintro r w4 ⟨u, rfl, T, hown, hsz⟩
  obtain ⟨q0, f0, q1, f1', -⟩ := T.rules
  generalize hm8 : m7 ++ wordL e.r = m8 at hown
  have hl8 : m8.length ≤ 83 := by rw [← hm8, List.length_append]; have : (wordL e.r).length = 8 := rfl; omega
  have HM8 := Lib.hid hm8
  clear hm8
  go_wp2_with fail
  refine (eput8 e.f T hg3 hne hown (Nat.lt_succ_self _) hsz (by omega) f1.1 f1.2).mono ?_
  clear T hown q0 q1 f0 f1' hsz
  rintro r w4 ⟨u, rfl, T, hown, hsz⟩
  obtain ⟨q0, f0, q1, f1', -⟩ := T.rules
  generalize hm9 : m8 ++ wordL e.f = m9 at hown
  have hl9 : m9.length ≤ 91 := by rw [← hm9, List.length_append]; have : (wordL e.f).length = 8 := rfl; omega
  have HM9 := Lib.hid hm9
  clear hm9
  obtain ⟨A, c, rfl, -⟩ := own_open hown
  go_wp2_with fail
  go_ret
  have hE : m9 = evL e := by
    rw [← HM9.out, ← HM8.out, ← HM7.out, ← HM6.out, ← HM5.out, ← HM4.out, ← HM3.out, HMM.out, ← HM2.out, ← HM1.out, HM0.out]
    simp [evL]
  rw [← hE]
  exact ⟨_, rfl, own_mono hown (by omega), T.below⟩
theorem eput (e : Ev) (hv : e.ok) (w : World) : Calls Try.prog 35 #[.agg (evA e)] w (GivesB (putE e) w) := by
  cases h : emayB e with
  | false => exact eput_no e hv h w
  | true => exact eput_yes e hv h w
end Go.Proofs.Ytolfnilickfneaa
