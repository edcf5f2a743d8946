/-
  The walk of the document's package leatref11: Apply.
-/
import Derived.Test.YtgbbhkdaalnchaaLn
import Derived.Test.YtgbbhkdaalnchaaOLa
namespace Go.Proofs.Ytgbbhkdaalnchaa
set_option linter.unusedVariables false
set_option linter.unusedSimpArgs false
open Go.RowKit Go Go.BigFrame
set_option maxRecDepth 100000

section
variable {w w' : World} {base g : Nat} {inn : Nat → Bool} {kn : Vec} {vn vg : Value} {gt : Nat} {vl : Value} {vr : Nat → Value} {ns : List Nd} {gs : List Grt} {t : List Tn} {rs : Nat → List Int} {cnt : Nat}
theorem ldoes (h : Led w base g inn kn vn vg gt vl vr ns gs t rs) (ok : LOk ns gs t rs cnt) (e : Ev) (ho : e.ok) (k : Nat) (hk : k < 6) (hek : e.o = (k : Int) + 1) (hc : cnt ≤ 900) (hm : emayB e = true) :
    Calls Try.prog 63 #[.pointer (some ⟨g, 0, none⟩), .agg (evA e)] w (DoesPost base g kn (cnt + 1) w) := by
  have hf : fieldsB e = true := by unfold emayB at hm; simp at hm; exact hm.2.1
  by_cases h1 : e.k = 1
  · exact ldoes1 h ok e ho k hk hek hc h1
  by_cases h2 : e.k = 2
  · exact ldoes2 h ok e ho k hk hek hc h2
  by_cases h3 : e.k = 3
  · exact ldoes3 h ok e ho k hk hek hc h3
  by_cases h4 : e.k = 4
  · exact ldoes4 h ok e ho k hk hek hc h4
  by_cases h5 : e.k = 5
  · exact ldoes5 h ok e ho k hk hek hc h5
  by_cases h6 : e.k = 6
  · unfold fieldsB at hf
    rw [if_neg h1, if_neg h2, if_neg h3, if_neg h4, if_neg h5, if_pos h6] at hf
    have ht : 1 ≤ e.t ∧ e.t ≤ 6 := by unfold toB regE at hf; simp at hf; omega
    exact ldoes6 h ok e ho k hk hek hc h6 (e.t - 1).toNat (by omega) (by omega)
  · unfold fieldsB at hf
    rw [if_neg h1, if_neg h2, if_neg h3, if_neg h4, if_neg h5, if_neg h6] at hf
    exact ldoes7 h ok e ho k hk hek hc (by simpa using hf)
/-- What Apply answers: the ledger itself and an error; or another ledger, where one event more is known. -/
def ApplyPost (g : Nat) (kn : Vec) (cnt : Nat) (e : Ev) (w : World) (r : Ending) (w' : World) : Prop :=
  ∃ g' n, r = .returned (.tuple #[.pointer (some ⟨g', 0, none⟩), .int .i64 n]) ∧ Below w.heap.size w w' ∧ ((n ≠ 0 ∧ g' = g) ∨ (n = 0 ∧ readyB kn e = true ∧ ∃ k : Nat, k < 6 ∧ e.o = (k : Int) + 1 ∧ LedAt w' w.heap.size g' (kn.set k (kn.get k + 1)) (cnt + 1)))
theorem ApplyPost.no {e : Ev} {n : Int} (hn : n ≠ 0) (hb : Below w.heap.size w w') : ApplyPost g kn cnt e w (.returned (.tuple #[.pointer (some ⟨g, 0, none⟩), .int .i64 n])) w' := ⟨g, n, rfl, hb, .inl ⟨hn, rfl⟩⟩
/-- Known has turned. -/
theorem Led.know {k : Nat} {x : Int} (h : Led w base g inn kn vn vg gt vl vr ns gs t rs) (hk : k < 6) : Led (w.setCell ⟨g, 12 + k, none⟩ (.int .u64 x)) base g inn (kn.set k x) vn vg gt vl vr ns gs t rs ∧ Below base w (w.setCell ⟨g, 12 + k, none⟩ (.int .u64 x)) := by
  have S : Kt base [46] w (w.setCell ⟨g, 12 + k, none⟩ (.int .u64 x)) := Kt.setCell h.blk (by simp) h.ge _ _
  have hb := h.blk.set_ (12 + k) (.int .u64 x)
  rw [ledA_set_kn _ _ _ _ _ _ k hk] at hb
  exact ⟨⟨hb, h.ge, ⟨S.blk _ _ _ h.tre.blk (by decide), S.row h.tre.row (by decide), h.tre.ge⟩, S.row h.rn (by decide), S.row h.rg (by decide), fun k hk => S.row (h.rr k hk) (by decide), h.apart⟩, S.below⟩
set_option maxHeartbeats 4000000 in
theorem lapply_not (h : Led w base g inn kn vn vg gt vl vr ns gs t rs) (hkn : kn.ok) (e : Ev) (ho : e.ok) (hm : readyB kn e = false) :
    Calls Try.prog 43 #[.pointer (some ⟨g, 0, none⟩), .agg (evA e)] w (ApplyPost g kn cnt e w) := by
  have T0 : Trk w _ [(w.heap.size, 32, evA e)] := (Trk.nil w).push (t := 32) (cs := evA e) rfl
  have HH := Lib.hid h
  obtain ⟨b1, hb1⟩ : ∃ b, emayB e = b := ⟨_, rfl⟩
  obtain ⟨b2, hb2⟩ : ∃ b, lateB kn e = b := ⟨_, rfl⟩
  have C1 := Lib.hid (fun W => rmay8' e ho b1 hb1 W)
  have C2 := Lib.hid (fun W => show Calls Try.prog 47 #[.agg (vecA kn), .agg (evA e)] W fun r w' => r = .returned (.bool b2) ∧ Below W.heap.size W w' from by have := rlate kn e ho W; rw [hb2] at this; exact this)
  have C3 := Lib.hid (fun W => show Calls Try.prog 48 #[.agg (vecA kn), .agg (evA e)] W fun r w' => r = .returned (.bool false) ∧ Below W.heap.size W w' from by have := rready kn hkn e ho W; rw [hm] at this; exact this)
  have HT := Lib.hid T0
  clear h T0 ho hkn hm hb1 hb2
  go_enter Try.func43, Try.ntmps43
  go_wp2_with fail
  generalize w.alloc _ = W at HT ⊢
  refine (C1.out _).mono ?_
  rintro r w1 ⟨rfl, hb⟩
  have HT1 := Lib.hid (HT.out.call hb)
  clear HT hb C1
  rcases (show b1 = false ∨ b1 = true from by cases b1 <;> simp) with rfl | rfl
  · go_wp2_with fail
    go_ret2
    exact ApplyPost.no (by decide) HT1.out.below
  have hL := HH.out.call HT1.out.below
  obtain ⟨q, -⟩ := hL.blk.rules
  obtain ⟨q1, -, -⟩ := HT1.out.rules
  have lg := hL.blk.lt
  have lt := HT1.out.lt
  clear hL
  go_upto_region 3 with fail
  refine wp_region_quietTail 6 (by kernel_rfl) (by simp) (by kernel_rfl) (by kernel_rfl) (by kernel_rfl) (by kernel_rfl) ?_
  simp only [List.take_succ_cons, List.take_zero, List.drop_succ_cons, List.drop_zero]
  repeat (go_big_quiet_step (fail))
  refine wpQuiet_nil ?_
  intro _ hw'
  obtain ⟨nq, hw''⟩ := hw'
  subst hw''
  have HT2 := Lib.hid (HT1.out.drewN nq)
  generalize w1.drewN nq = W2 at HT2 ⊢
  clear HT1 q q1 lg lt
  go_wp2_with fail
  refine (C2.out _).mono ?_
  rintro r w3 ⟨rfl, hb⟩
  have HT3 := Lib.hid (HT2.out.call hb)
  clear HT2 hb C2
  rcases (show b2 = true ∨ b2 = false from by cases b2 <;> simp) with rfl | rfl
  · go_wp2_with fail
    go_ret2
    exact ApplyPost.no (by decide) HT3.out.below
  have hL := HH.out.call HT3.out.below
  obtain ⟨q, -⟩ := hL.blk.rules
  obtain ⟨q1, -, -⟩ := HT3.out.rules
  have lg := hL.blk.lt
  have lt := HT3.out.lt
  clear hL
  go_upto_region 5 with fail
  refine wp_region_quietTail 6 (by kernel_rfl) (by simp) (by kernel_rfl) (by kernel_rfl) (by kernel_rfl) (by kernel_rfl) ?_
  simp only [List.take_succ_cons, List.take_zero, List.drop_succ_cons, List.drop_zero]
  repeat (go_big_quiet_step (fail))
  refine wpQuiet_nil ?_
  intro _ hw'
  obtain ⟨nq2, hw''⟩ := hw'
  subst hw''
  have HT4 := Lib.hid (HT3.out.drewN nq2)
  generalize w3.drewN nq2 = W4 at HT4 ⊢
  clear HT3 q q1 lg lt
  go_wp2_with fail
  refine (C3.out _).mono ?_
  rintro r w5 ⟨rfl, hb⟩
  have HT5 := Lib.hid (HT4.out.call hb)
  clear HT4 hb C3
  go_wp2_with fail
  go_ret2
  exact ApplyPost.no (by decide) HT5.out.below
/-- A lower base. -/
theorem Led.lower {base' : Nat} (h : Led w base' g inn kn vn vg gt vl vr ns gs t rs) (hb : base ≤ base') : Led w base g inn kn vn vg gt vl vr ns gs t rs :=
  ⟨h.blk, Nat.le_trans hb h.ge, ⟨h.tre.blk, h.tre.row.mono hb, Nat.le_trans hb h.tre.ge⟩, h.rn.mono hb, h.rg.mono hb, fun k hk => (h.rr k hk).mono hb, h.apart⟩
set_option maxHeartbeats 4000000 in
theorem lapply_yes (h : Led w base g inn kn vn vg gt vl vr ns gs t rs) (ok : LOk ns gs t rs cnt) (hkn : kn.ok) (hbig : ∀ k, k < 6 → kn.get k ≤ 1000000) (e : Ev) (ho : e.ok) (hm : readyB kn e = true) (hc : cnt ≤ 900) :
    Calls Try.prog 43 #[.pointer (some ⟨g, 0, none⟩), .agg (evA e)] w (ApplyPost g kn cnt e w) := by
  obtain ⟨k, hk, hek, -, -, hks, -, hmay⟩ := ready_facts hm
  have hlate : lateB kn e = false := by unfold lateB; rw [hmay, hek]; simp; omega
  obtain ⟨o, s, d, kd, n, tt, am, rq, f⟩ := e
  obtain rfl : o = (k : Int) + 1 := hek
  have T0 : Trk w _ [(w.heap.size, 32, evA (⟨(k : Int) + 1, s, d, kd, n, tt, am, rq, f⟩ : Ev))] := (Trk.nil w).push (t := 32) (cs := evA (⟨(k : Int) + 1, s, d, kd, n, tt, am, rq, f⟩ : Ev)) rfl
  have HH := Lib.hid h
  have C1 := Lib.hid (fun W => rmay8' (⟨(k : Int) + 1, s, d, kd, n, tt, am, rq, f⟩ : Ev) ho true hmay W)
  have C2 := Lib.hid (fun W => show Calls Try.prog 47 #[.agg (vecA kn), .agg (evA (⟨(k : Int) + 1, s, d, kd, n, tt, am, rq, f⟩ : Ev))] W fun r w' => r = .returned (.bool false) ∧ Below W.heap.size W w' from by have := rlate kn (⟨(k : Int) + 1, s, d, kd, n, tt, am, rq, f⟩ : Ev) ho W; rw [hlate] at this; exact this)
  have C3 := Lib.hid (fun W => show Calls Try.prog 48 #[.agg (vecA kn), .agg (evA (⟨(k : Int) + 1, s, d, kd, n, tt, am, rq, f⟩ : Ev))] W fun r w' => r = .returned (.bool true) ∧ Below W.heap.size W w' from by have := rready kn hkn (⟨(k : Int) + 1, s, d, kd, n, tt, am, rq, f⟩ : Ev) ho W; rw [hm] at this; exact this)
  have HT := Lib.hid T0
  have HO := Lib.hid ok
  have HM := Lib.hid (And.intro hm (And.intro hmay ho))
  have c1 := ledA_in inn kn vn vg gt vr k hk
  have c2 := ledA_left inn kn vn vg gt vr k hk
  have HK := Lib.hid (And.intro (hkn k hk).1 (hbig k hk))
  obtain ⟨b1, hb1⟩ : ∃ b, inn k = b := ⟨_, rfl⟩
  obtain ⟨b2, hb2⟩ : ∃ b, inn (6 + k) = b := ⟨_, rfl⟩
  rw [hb1] at c1
  rw [hb2] at c2
  have k0 : (0 : Int) ≤ (k : Int) := by omega
  have k6 : (k : Int) < 6 := by omega
  clear h T0 ho hkn hm hb1 hb2 hmay hlate hks ok hbig
  go_enter Try.func43, Try.ntmps43
  go_wp2_with fail
  generalize w.alloc _ = W at HT ⊢
  refine (C1.out _).mono ?_
  rintro r w1 ⟨rfl, hb⟩
  have HT1 := Lib.hid (HT.out.call hb)
  clear HT hb C1
  have hL := HH.out.call HT1.out.below
  obtain ⟨q, -⟩ := hL.blk.rules
  obtain ⟨q1, -, -⟩ := HT1.out.rules
  have lg := hL.blk.lt
  have lt := HT1.out.lt
  clear hL
  go_upto_region 3 with fail
  refine wp_region_quietTail 6 (by kernel_rfl) (by simp) (by kernel_rfl) (by kernel_rfl) (by kernel_rfl) (by kernel_rfl) ?_
  simp only [List.take_succ_cons, List.take_zero, List.drop_succ_cons, List.drop_zero]
  repeat (go_big_quiet_step (fail))
  refine wpQuiet_nil ?_
  intro _ hw'
  obtain ⟨nq, hw''⟩ := hw'
  subst hw''
  have HT2 := Lib.hid (HT1.out.drewN nq)
  generalize w1.drewN nq = W2 at HT2 ⊢
  clear HT1 q q1 lg lt
  go_wp2_with fail
  refine (C2.out _).mono ?_
  rintro r w3 ⟨rfl, hb⟩
  have HT3 := Lib.hid (HT2.out.call hb)
  clear HT2 hb C2
  have hL := HH.out.call HT3.out.below
  obtain ⟨q, -⟩ := hL.blk.rules
  obtain ⟨q1, -, -⟩ := HT3.out.rules
  have lg := hL.blk.lt
  have lt := HT3.out.lt
  clear hL
  go_upto_region 5 with fail
  refine wp_region_quietTail 6 (by kernel_rfl) (by simp) (by kernel_rfl) (by kernel_rfl) (by kernel_rfl) (by kernel_rfl) ?_
  simp only [List.take_succ_cons, List.take_zero, List.drop_succ_cons, List.drop_zero]
  repeat (go_big_quiet_step (fail))
  refine wpQuiet_nil ?_
  intro _ hw'
  obtain ⟨nq2, hw''⟩ := hw'
  subst hw''
  have HT4 := Lib.hid (HT3.out.drewN nq2)
  generalize w3.drewN nq2 = W4 at HT4 ⊢
  clear HT3 q q1 lg lt
  go_wp2_with fail
  refine (C3.out _).mono ?_
  rintro r w5 ⟨rfl, hb⟩
  have HT5 := Lib.hid (HT4.out.call hb)
  clear HT4 hb C3
  have hL := HH.out.call HT5.out.below
  obtain ⟨q, -⟩ := hL.blk.rules
  obtain ⟨q1, -, -⟩ := HT5.out.rules
  have lg := hL.blk.lt
  have lt := HT5.out.lt
  clear hL
  rcases (show b1 = false ∨ b1 = true from by cases b1 <;> simp) with rfl | rfl
  · go_wp2_with fail
    go_ret2
    exact ApplyPost.no (by decide) HT5.out.below
  rcases (show b2 = true ∨ b2 = false from by cases b2 <;> simp) with rfl | rfl
  · go_wp2_with fail
    go_ret2
    exact ApplyPost.no (by decide) HT5.out.below
  have CC := Lib.hid (lcopy (HH.out.call HT5.out.below) (by have := HO.out.len; have := HO.out.l32; omega) (by have := HO.out.gl; omega) (by have := HO.out.l32; omega) (fun j hj => by have := HO.out.rl j hj; omega))
  go_wp2_with fail
  clear q q1 lg lt c1 c2
  refine CC.out.mono ?_
  rintro r w6 ⟨g2, vn2, vg2, gt2, vl2, vr2, rfl, hL2, hb6⟩
  have CD := Lib.hid (ldoes hL2 HO.out (⟨(k : Int) + 1, s, d, kd, n, tt, am, rq, f⟩ : Ev) HM.out.2.2 k hk rfl hc HM.out.2.1)
  have hs5 := HT5.out.below.size
  have HT6 := Lib.hid (HT5.out.call hb6)
  obtain ⟨q1, -, -⟩ := HT6.out.rules
  have lt := HT6.out.lt
  clear HT5 CC hL2 hb6
  go_wp2_with fail
  refine CD.out.mono ?_
  rintro r w7 ⟨n0, rfl, hb7, hz⟩
  have hbw := HT6.out.below.trans (hb7.mono hs5)
  have HZ := Lib.hid (And.intro hbw hz)
  clear CD q1 lt HT6 hb7 hz hbw
  by_cases hn0 : n0 = 0
  rotate_left
  · have dn : (n0 != 0) = true := by simp [hn0]
    have HN := Lib.hid hn0
    clear hn0
    go_wp2_with fail
    go_ret2
    exact ApplyPost.no HN.out HZ.out.1
  subst hn0
  obtain ⟨inn3, vn3, vg3, gt3, vl3, vr3, ns3, gs3, t3, rs3, hL3, hO3⟩ := HZ.out.2 rfl
  obtain ⟨h0, h1⟩ := HK.out
  have hL9 := (hL3.call (Below.refl _ _).drew).know (x := kn.get k + 1) hk
  have hs1 : (w7.setCell ⟨g2, 12 + k, none⟩ (.int .u64 (kn.get k + 1))).drew = w7.drew.setCell ⟨g2, 12 + k, none⟩ (.int .u64 (kn.get k + 1)) := by simp [World.setCell_drew]
  rw [← hs1] at hL9
  have c1 := ledA_kn inn3 kn vn3 vg3 gt3 vr3 k hk
  obtain ⟨q, fz⟩ := hL3.blk.rules
  have lg := hL3.blk.lt
  have X := Lib.hid (And.intro (hL9.1.lower hs5) (And.intro (HZ.out.1.trans ((below_drewN (Below.refl w.heap.size w7) 1).trans (hL9.2.mono hs5))) hO3))
  clear hL3 hO3 hL9 hs1 hs5
  go_upto_region 14 with fail
  go_region
  clear q fz c1 lg h0 h1
  go_wp2_with fail
  go_ret2
  exact ⟨_, 0, rfl, X.out.2.1, .inr ⟨rfl, HM.out.1, k, hk, rfl, _, _, _, _, _, _, _, _, _, _, X.out.1, X.out.2.2⟩⟩
end
end Go.Proofs.Ytgbbhkdaalnchaa
