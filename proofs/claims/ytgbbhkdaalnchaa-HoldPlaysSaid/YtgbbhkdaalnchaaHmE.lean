/-
  Put as one contract; the walks of leatlaw15: works, HoldNil.
-/
import Derived.Test.YtgbbhkdaalnchaaHmD
namespace Go.Proofs.Ytgbbhkdaalnchaa
set_option linter.unusedVariables false
set_option linter.unusedSimpArgs false
open Go.RowKit Go
set_option maxRecDepth 100000

section
variable {w w' : World} {h m : Nat} {L L' : List Ev}
/-- What is held behind Put. -/
def PutPost (w w' : World) (h m : Nat) (L' : List Ev) : Prop := HO w' h m L' ∧ Fr w w' m none
theorem hput (H : HO w h m L) (v : Vec) (e : Ev) (ho : e.ok) :
    Calls Try.prog 14 #[.pointer (some ⟨h, 0, none⟩), .agg (vecA v), .agg (evA e)] w fun r w' => r = .returned (.int .i64 (hputR v L e)) ∧ PutPost w w' h m (hputL v L e) := by
  cases hm : emayB e with
  | false =>
    refine (hput_not H v e ho hm).mono fun r w' ⟨h1, h2⟩ => ?_
    have hr : hputR v L e = 1 := by simp [hputR, hm]
    rw [hputL, hr, if_neg (by decide)]
    exact ⟨h1, H.call h2, Fr.of_below h2⟩
  | true =>
    cases hl : lateB v e with
    | true =>
      refine (hput_late H v e ho hm hl).mono fun r w' ⟨h1, h2⟩ => ?_
      have hr : hputR v L e = 14 := by simp [hputR, hm, hl]
      rw [hputL, hr, if_neg (by decide)]
      exact ⟨h1, H.call h2, Fr.of_below h2⟩
    | false =>
      cases hx : lookE L e.o e.s with
      | some x =>
        refine (hput_there H v e ho hm hl hx).mono fun r w' ⟨h1, h2⟩ => ?_
        have hr : hputR v L e = 14 := by simp [hputR, hm, hl, hx]
        rw [hputL, hr, if_neg (by decide)]
        exact ⟨h1, H.call h2, Fr.of_below h2⟩
      | none =>
        by_cases hn : 64 ≤ L.length
        · refine (hput_full H v e ho hm hl hx hn).mono fun r w' ⟨h1, h2⟩ => ?_
          have hr : hputR v L e = 7 := by simp [hputR, hm, hl, hx, hn]
          rw [hputL, hr, if_neg (by decide)]
          exact ⟨h1, H.call h2, Fr.of_below h2⟩
        · refine (hput_new H v e ho hm hl hx (by omega)).mono fun r w' ⟨h1, h2⟩ => ?_
          have hr : hputR v L e = 0 := by simp [hputR, hm, hl, hx, hn]
          rw [hputL, hr, if_pos rfl]
          exact ⟨h1, h2⟩
theorem hput_is (v : Vec) (e : Ev) (ho : e.ok) (L L' : List Ev) (n : Int) (h1 : hputR v L e = n) (h2 : hputL v L e = L') (w : World) (h m : Nat) (H : HO w h m L) :
    Calls Try.prog 14 #[.pointer (some ⟨h, 0, none⟩), .agg (vecA v), .agg (evA e)] w fun r w' => r = .returned (.int .i64 n) ∧ PutPost w w' h m L' := by
  subst h1; subst h2; exact hput H v e ho
theorem hnext_is (v : Vec) (hv : ∀ k, k < 6 → 0 ≤ v.get k ∧ v.get k ≤ 1000000) (L : List Ev) (okL : ∀ e ∈ L, e.ok) (x : Ev) (b : Bool) (M : List Ev) (h1 : hnextV (hnextR v L) = .tuple #[.agg (evA x), .bool b]) (h2 : ∀ L', NextTo v L L' → L'.Perm M) (w : World) (h m : Nat) (H : HO w h m L) :
    Calls Try.prog 16 #[.pointer (some ⟨h, 0, none⟩), .agg (vecA v)] w fun r w' => r = .returned (.tuple #[.agg (evA x), .bool b]) ∧ PutPost w w' h m M := by
  have c := hnext H v hv okL
  rw [h1] at c
  exact c.mono fun r w' ⟨h1, L', h3, h4, h5⟩ => ⟨h1, h3.perm (h2 L' h5), h4⟩
end
def exH2 : Ev := ⟨1, 2, ⟨1, 0, 0, 0, 0, 0⟩, 7, 0, 0, 0, 0, 0⟩
def exH1 : Ev := ⟨1, 1, Vec.zero, 1, 0, 0, 0, 0, 0⟩
theorem exH2_ok : exH2.ok := ⟨by decide, by decide, ok_of (by decide), by decide, by decide, by decide, by decide, by decide, by decide⟩
theorem exH1_ok : exH1.ok := ⟨by decide, by decide, Vec.ok_zero, by decide, by decide, by decide, by decide, by decide, by decide⟩
theorem exv0 : ∀ k, k < 6 → 0 ≤ Vec.zero.get k ∧ Vec.zero.get k ≤ 1000000 := by intro k hk; rw [Vec.get_zero]; omega
theorem exv1 : ∀ k, k < 6 → 0 ≤ (⟨1, 0, 0, 0, 0, 0⟩ : Vec).get k ∧ (⟨1, 0, 0, 0, 0, 0⟩ : Vec).get k ≤ 1000000 := fun k hk => Vec.six (P := fun k => 0 ≤ (⟨1, 0, 0, 0, 0, 0⟩ : Vec).get k ∧ (⟨1, 0, 0, 0, 0, 0⟩ : Vec).get k ≤ 1000000) (by decide) (by decide) (by decide) (by decide) (by decide) (by decide) k hk
theorem exh_put1 : hputR Vec.zero [] exH2 = 0 ∧ hputL Vec.zero [] exH2 = [exH2] := by decide +kernel
theorem exh_put2 : hputR Vec.zero [exH2] exH1 = 0 ∧ hputL Vec.zero [exH2] exH1 = [exH2, exH1] := by decide +kernel
theorem exh_r1 : hnextR Vec.zero [exH2] = none ∧ ([exH2].filter fun e => !lateB Vec.zero e) = [exH2] := by decide +kernel
theorem exh_r2 : hnextR Vec.zero [exH2, exH1] = some exH1 ∧ ([exH2, exH1].filter fun e => !lateB Vec.zero e) = [exH2, exH1] := by decide +kernel
theorem exh_r3 : hnextR ⟨1, 0, 0, 0, 0, 0⟩ [exH2] = some exH2 ∧ ([exH2].filter fun e => !lateB ⟨1, 0, 0, 0, 0, 0⟩ e) = [exH2] := by decide +kernel
theorem exh_t1 : ∀ L', NextTo Vec.zero [exH2] L' → L'.Perm [exH2] := fun L' h => by
  unfold NextTo at h
  rw [exh_r1.1, exh_r1.2] at h
  exact h.symm
theorem exh_t2 : ∀ L', NextTo Vec.zero [exH2, exH1] L' → L'.Perm [exH2] := fun L' h => by
  unfold NextTo at h
  rw [exh_r2.1, exh_r2.2] at h
  exact ((List.Perm.swap exH2 exH1 []).trans h |>.cons_inv).symm
theorem exh_t3 : ∀ L', NextTo ⟨1, 0, 0, 0, 0, 0⟩ [exH2] L' → L'.Perm [] := fun L' h => by
  unfold NextTo at h
  rw [exh_r3.1, exh_r3.2] at h
  exact h.cons_inv.symm
set_option maxHeartbeats 2000000 in
theorem works15 (w : World) : Calls Try.prog 10 #[] w fun r w' => r = .returned (.bool true) ∧ Below w.heap.size w w' := by
  have C1 := Lib.hid (hput_is Vec.zero exH2 exH2_ok [] _ _ exh_put1.1 exh_put1.2)
  have C2 := Lib.hid (hput_is Vec.zero exH1 exH1_ok [exH2] _ _ exh_put2.1 exh_put2.2)
  have ok1 : ∀ e ∈ [exH2], e.ok := fun e he => by simp at he; subst he; exact exH2_ok
  have ok2 : ∀ e ∈ [exH2, exH1], e.ok := fun e he => by simp at he; rcases he with rfl | rfl; exact exH2_ok; exact exH1_ok
  have D1 := Lib.hid (hnext_is Vec.zero exv0 [exH2] ok1 Ev.zero false [exH2] (by rw [exh_r1.1]; rfl) exh_t1)
  have D2 := Lib.hid (hnext_is Vec.zero exv0 [exH2, exH1] ok2 exH1 true [exH2] (by rw [exh_r2.1]; rfl) exh_t2)
  have D3 := Lib.hid (hnext_is ⟨1, 0, 0, 0, 0, 0⟩ exv1 [exH2] ok1 exH2 true [] (by rw [exh_r3.1]; rfl) exh_t3)
  have C0 := Lib.hid (hnew w)
  have hx2 : evA ⟨1, 2, ⟨1, 0, 0, 0, 0, 0⟩, 7, 0, 0, 0, 0, 0⟩ = evA exH2 := rfl
  have hx1 : evA ⟨1, 1, Vec.zero, 1, 0, 0, 0, 0, 0⟩ = evA exH1 := rfl
  have HX := Lib.hid (And.intro hx1 hx2)
  clear ok1 ok2 hx1 hx2
  generalize exH1 = e1 at C1 C2 D1 D2 D3 HX
  generalize exH2 = e2 at C1 C2 D1 D2 D3 HX
  go_enter Try.func10, Try.ntmps10
  go_wp2_with fail
  refine C0.out.mono ?_
  rintro r w1 ⟨u1, rfl, h, m, rfl, H1, gh, gm, hb1⟩
  have lm1 := H1.map.lt
  go_upto_region 4 with fail
  rw [HX.out.1, HX.out.2]
  have T1 : Trk w _ [(w1.heap.size + 1, 32, evA e1), (w1.heap.size, 32, evA e2)] := (((Trk.nil w).call hb1).push (t := 32) (cs := evA e2) rfl).push (t := 32) (cs := evA e1) (g := w1.heap.size + 1) (by simp)
  have H2 := H1.call (((Below.refl w1.heap.size w1).alloc (Nat.le_refl _) (.cells (evA e2) 32)).alloc (by simp) (.cells (evA e1) 32))
  generalize (w1.alloc _).alloc _ = w2 at T1 H2 ⊢
  clear H1 hb1 C0
  obtain ⟨q1, -, q0, -, -⟩ := T1.rules
  go_wp2_with fail
  refine (C1.out _ _ _ H2).mono ?_
  rintro r w3 ⟨rfl, H3, F3⟩
  have T3 := T1.fr F3 gm ⟨by omega, by omega, trivial⟩
  clear q1 q0 T1 H2 F3
  go_wp2_with fail
  refine (D1.out _ _ _ H3).mono ?_
  rintro r w4 ⟨rfl, H4, F4⟩
  have T4 := (T3.fr F4 gm ⟨by omega, by omega, trivial⟩)
  have lm4 := H4.map.lt
  clear T3 H3 F4
  have ga1 : w1.heap.size + 1 < w4.heap.size := T4.lt
  go_upto_region 6 with fail
  have T5 := T4.push (t := 32) (cs := evA Ev.zero) rfl
  have H5 := H4.call ((Below.refl w4.heap.size w4).alloc (Nat.le_refl _) (.cells (evA Ev.zero) 32))
  generalize w4.alloc _ = w5 at T5 H5 ⊢
  generalize w4.heap.size = g4 at T5 lm4 ga1 ⊢
  clear T4 H4
  obtain ⟨-, -, q1, -, q0, -, -⟩ := T5.rules
  go_wp2_with fail
  refine (C2.out _ _ _ H5).mono ?_
  rintro r w6 ⟨rfl, H6, F6⟩
  have T6 := T5.fr F6 gm ⟨by omega, by omega, by omega, trivial⟩
  clear q1 q0 T5 H5 F6
  go_wp2_with fail
  refine (D2.out _ _ _ H6).mono ?_
  rintro r w7 ⟨rfl, H7, F7⟩
  have T7 := (T6.fr F7 gm ⟨by omega, by omega, by omega, trivial⟩)
  have lm7 := H7.map.lt
  have ga4 : g4 < w7.heap.size := T7.lt
  clear T6 H6 F7
  go_upto_region 8 with fail
  have T8 := T7.push (t := 32) (cs := evA e1) rfl
  have H8 := H7.call ((Below.refl w7.heap.size w7).alloc (Nat.le_refl _) (.cells (evA e1) 32))
  generalize w7.alloc _ = w8 at T8 H8 ⊢
  generalize w7.heap.size = g7 at T8 lm7 ga4 ⊢
  clear T7 H7
  go_wp2_with fail
  refine (D3.out _ _ _ H8).mono ?_
  rintro r w9 ⟨rfl, H9, F9⟩
  have T9 := (T8.fr F9 gm ⟨by omega, by omega, by omega, by omega, trivial⟩)
  have lm9 := H9.map.lt
  have ga7 : g7 < w9.heap.size := T9.lt
  clear T8 H8 F9
  go_upto_region 9 with fail
  have TA := T9.push (t := 32) (cs := evA e2) rfl
  have HA := H9.call ((Below.refl w9.heap.size w9).alloc (Nat.le_refl _) (.cells (evA e2) 32))
  generalize w9.alloc _ = w10 at TA HA ⊢
  generalize w9.heap.size = g9 at TA lm9 ga7 ⊢
  clear T9 H9
  obtain ⟨q9, -, q7, -, q4, -, q1, -, q0, -, -⟩ := TA.rules
  have hee1 : decide (e1 = e1) = true := by simp
  have hee2 : decide (e2 = e2) = true := by simp
  have CL := Lib.hid (hlen HA)
  clear HA
  go_wp2_with fail
  refine CL.out.mono ?_
  rintro r w11 ⟨rfl, rfl⟩
  go_wp2_with fail
  go_ret
  exact ⟨rfl, TA.below⟩
theorem hnil_law (v : Vec) (e : Ev) (w : World) : Calls Try.prog 4 #[.agg (vecA v), .agg (evA e)] w fun r w' => r = .returned (.bool true) ∧ Below w.heap.size w w' := by
  have C1 := Lib.hid (fun W => hnext_nil v W)
  have C2 := Lib.hid (fun W => hput_nil v e W)
  have C3 := Lib.hid (fun W => hlen_nil W)
  have C4 := Lib.hid (fun W => works15 W)
  go_enter Try.func4, Try.ntmps4
  go_wp2_with fail
  have T0 : Trk w _ [(w.heap.size + 1, 32, evA e), (w.heap.size, 30, vecA v)] := ((Trk.nil w).push (t := 30) (cs := vecA v) rfl).push (t := 32) (cs := evA e) (g := w.heap.size + 1) (by simp)
  refine (C1.out _).mono ?_
  rintro r w1 ⟨rfl, hb1⟩
  have T1 := T0.call hb1
  clear T0 hb1
  go_upto_region 3 with fail
  have T2 := T1.push (t := 32) (cs := evA Ev.zero) rfl
  generalize w1.alloc _ = w2 at T2 ⊢
  generalize w1.heap.size = g1 at T2 ⊢
  clear T1
  obtain ⟨q2, -, q1, -, q0, -, -⟩ := T2.rules
  go_wp2_with fail
  refine (C2.out _).mono ?_
  rintro r w3 ⟨rfl, hb3⟩
  have T3 := T2.call hb3
  clear q2 q1 q0 T2 hb3
  obtain ⟨q2, -, q1, -, q0, -, -⟩ := T3.rules
  have hz : decide (Ev.zero = Ev.zero) = true := by simp
  go_wp2_with fail
  refine (C3.out _).mono ?_
  rintro r w4 ⟨rfl, rfl⟩
  go_wp2_with fail
  refine (C4.out _).mono ?_
  rintro r w5 ⟨rfl, hb5⟩
  have T5 := T3.call hb5
  clear q2 q1 q0 T3 hb5
  go_wp2_with fail
  go_ret
  exact ⟨rfl, T5.below⟩
end Go.Proofs.Ytgbbhkdaalnchaa
