/-
  The walk of the document's package leatref11: World.Do, an act.
-/
import Derived.Test.YtgbbhkdaalnchaaWd
import Derived.Test.YtgbbhkdaalnchaaWv
namespace Go.Proofs.Ytgbbhkdaalnchaa
set_option linter.unusedVariables false
set_option linter.unusedSimpArgs false
open Go.RowKit Go Go.BigFrame
set_option maxRecDepth 100000

section
variable {w w' : World} {base gw : Nat} {vL vA : Value} {ls : List (Nat × Vec)} {all : List Ev}
set_option maxHeartbeats 2000000 in
theorem wdo_act (h : Wld w base gw vL vA ls all) (ok : WOk ls all) (x : Ac) (hx : x.ok) (hn : 0 < ls.length) (h6 : ls.length ≤ 6) (hl : all.length ≤ 99) (hm : x.m = false) :
    Calls Try.prog 12 #[.pointer (some ⟨gw, 0, none⟩), .agg (acA x)] w (DoPost base gw ls.length all.length w) := by
  obtain ⟨gl, cl, rfl, hcl, hml, hgl, lgl⟩ := h.rl.sl_pos hn
  obtain ⟨Aa, ca, rfl, hca, hma⟩ := h.ra.sl
  obtain ⟨xw, xm, xo, xk, xn, xt, xa, xr, xf⟩ := x
  obtain rfl : xm = false := hm
  have hxw : (xw : Int) ≤ 255 := by have := hx.w; simp at this; omega
  have HX := Lib.hid hx
  have T0 : Trk { w with heap := #[] } _ [(w.heap.size + 1, 32, evA Ev.zero), (w.heap.size, 36, acA ⟨xw, false, xo, xk, xn, xt, xa, xr, xf⟩)] := ((Trk.bare w).push (t := 36) (cs := acA ⟨xw, false, xo, xk, xn, xt, xa, xr, xf⟩) rfl).push (t := 32) (cs := evA Ev.zero) (g := w.heap.size + 1) (by simp)
  have hB0 : Below w.heap.size w ((w.alloc (.cells (acA ⟨xw, false, xo, xk, xn, xt, xa, xr, xf⟩) 36)).alloc (.cells (evA Ev.zero) 32)) := ((Below.refl _ _).alloc (Nat.le_refl _) _).alloc (by simp) _
  have HH := Lib.hid (And.intro h (And.intro ok hl))
  have hW := h.call hB0
  obtain ⟨q1, -, q0, -, -⟩ := T0.rules
  obtain ⟨l1, l0, -⟩ := T0.lts
  obtain ⟨q, -⟩ := hW.blk.rules
  have lg := hW.blk.lt
  have ho := Nat.mod_lt xw hn
  obtain ⟨p, hp⟩ : ∃ p, ls[xw % ls.length]? = some p := ⟨_, List.getElem?_eq_getElem ho⟩
  have HP0 := Lib.hid hp
  obtain ⟨ls', hls⟩ : ∃ n, ls.length = n := ⟨_, rfl⟩
  have hfp := ok.fits p (List.mem_of_getElem? hp)
  have HN := Lib.hid (And.intro hn h6)
  rw [hls] at ho h6 hn hp q hcl
  obtain ⟨o, hoe⟩ : ∃ o, xw % ls' = o := ⟨_, rfl⟩
  rw [hoe] at ho hp
  have ht : Int.tmod (xw : Int) (ls' : Int) = (o : Int) := by rw [← hoe]; rfl
  have o0 : (0 : Int) ≤ (o : Int) := by omega
  have o6 : (o : Int) < 6 := by omega
  have HT := Lib.hid (And.intro T0 hB0)
  have HP := Lib.hid (And.intro hp (And.intro hls (And.intro hml (And.intro hma (And.intro hfp hoe)))))
  clear h ok hoe hls hp T0 hB0 hW hml hma hl hfp hx
  go_enter Try.func12, Try.ntmps12
  go_upto_region 1 with fail
  go_quiet (fail)
  have HT1 := Lib.hid (And.intro (HT.out.1.drewN nq) (below_drewN HT.out.2 nq))
  generalize ((w.alloc _).alloc _).drewN nq = W1 at HT1 ⊢
  clear q q0 q1 l0 l1 lg HT ht
  obtain ⟨q1, -, q0, -, -⟩ := HT1.out.1.rules
  obtain ⟨l1, l0, -⟩ := HT1.out.1.lts
  have CE := Lib.hid (wevent (HH.out.1.call HT1.out.2) ⟨xw, false, xo, xk, xn, xt, xa, xr, xf⟩ HX.out HN.out.1 HN.out.2 p HP0.out (fun r hr => ⟨(HP.out.2.2.2.2.1 r hr).1, (HP.out.2.2.2.2.1.ok (by have := HH.out.2.2; omega)).2 r hr⟩))
  go_wp2_with fail
  refine CE.out.mono ?_
  rintro r w2 ⟨e, rfl, heok, heo, hes, hed, hb2⟩
  rw [HP.out.2.1, HP.out.2.2.2.2.2] at heo hes
  have HE := Lib.hid (And.intro heok (And.intro heo (And.intro hes hed)))
  have HT2 := Lib.hid (And.intro (HT1.out.1.call hb2) (HT1.out.2.trans (hb2.mono HT1.out.2.size)))
  clear CE HT1 q0 q1 l0 l1 heok heo hes hed hb2 HX
  go_upto_region 6 with fail
  have HT3 := Lib.hid (And.intro (HT2.out.1.push (t := 32) (cs := evA e) (g := w2.heap.size) rfl) (HT2.out.2.alloc HT2.out.2.size (.cells (evA e) 32)))
  have hge : w.heap.size + 1 < w2.heap.size := HT2.out.1.lt
  generalize w2.alloc _ = W3 at HT3 ⊢
  generalize w2.heap.size = ge at HT3 hge ⊢
  clear HT2
  obtain ⟨q2, -, q1, -, q0, -, -⟩ := HT3.out.1.rules
  obtain ⟨l2, l1, l0, -⟩ := HT3.out.1.lts
  have hW := HH.out.1.call HT3.out.2
  rw [HP.out.2.1] at hW
  obtain ⟨q, -⟩ := hW.blk.rules
  have lg := hW.blk.lt
  have lgl1 : gl < W3.heap.size := Nat.lt_of_lt_of_le lgl HT3.out.2.size
  have hp0 := hW.rl.rng ptA_size HP.out.1 0 (.pointer (some ⟨p.1, 0, none⟩)) rfl
  have hp1 : W3.cell? ⟨gl, o, none⟩ = some (.pointer (some ⟨p.1, 0, none⟩)) := by rw [show o * 1 + 0 = o from by omega] at hp0; exact hp0
  have hK := hW.led p (List.mem_of_getElem? HP.out.1)
  obtain ⟨g1, k1⟩ := p
  dsimp only at hp1 hK
  have HK := Lib.hid hK
  clear hW hK hp0
  refine wp_region_qcq 8 1 (by kernel_rfl) (by kernel_rfl) (by simp) (by kernel_rfl) (by kernel_rfl) (by kernel_rfl) (by kernel_rfl) ?_
  simp only [List.take_succ_cons, List.take_zero, List.drop_succ_cons, List.drop_zero]
  repeat (go_big_quiet_step (fail))
  refine wpQuiet_nil ?_
  intro _ hw'
  obtain ⟨nq2, hw''⟩ := hw'
  subst hw''
  have hb3 : Below W3.heap.size W3 (W3.drewN nq2) := below_drewN (Below.refl _ _) nq2
  have CA := Lib.hid (lapply (HK.out.call hb3) HP.out.2.2.2.2.1 (by have := HH.out.2.2; omega) e HE.out.1)
  have HT4 := Lib.hid (And.intro (HT3.out.1.call hb3) (HT3.out.2.trans (hb3.mono HT3.out.2.size)))
  clear HT3 HK hb3 q q0 q1 q2 l0 l1 l2 lg lgl1 hp1
  generalize W3.drewN nq2 = W4 at CA HT4 ⊢
  go_wp2_with (go_at_call 43; (refine CA.out.mono ?_); rintro r w5 ⟨g', n, kn', rfl, hb5, hL5, hcase⟩)
  have HT5 := Lib.hid (And.intro (HT4.out.1.call hb5) (HT4.out.2.trans (hb5.mono HT4.out.2.size)))
  have HL5 := Lib.hid (And.intro hL5 hcase)
  clear CA HT4 hb5 hL5 hcase
  refine preD ?_
  repeat (go_big_quiet_step (fail))
  refine wpQuiet_nil ?_
  intro _ hw'
  obtain ⟨nq3, hw''⟩ := hw'
  subst hw''
  have hb6 : Below w5.heap.size w5 (w5.drewN nq3) := below_drewN (Below.refl _ _) nq3
  have HT6 := Lib.hid (And.intro (HT5.out.1.call hb6) (HT5.out.2.trans (hb6.mono HT5.out.2.size)))
  have HL6 := Lib.hid (And.intro (HL5.out.1.call hb6) HL5.out.2)
  clear HT5 HL5 hb6
  generalize w5.drewN nq3 = W6 at HT6 HL6 ⊢
  have T6 := HT6.out.1.perm (cs := [(w.heap.size + 1, 32, evA Ev.zero), (ge, 32, evA e), (w.heap.size, 36, acA ⟨xw, false, xo, xk, xn, xt, xa, xr, xf⟩)]) (by simp)
  by_cases hn0 : n = 0
  rotate_left
  · have dn : (n != 0) = true := by simp [hn0]
    clear hn0
    have hW6 := HH.out.1.call HT6.out.2
    obtain ⟨q1, f1, -, -, -, -, -⟩ := T6.rules
    obtain ⟨l1, -, -, -⟩ := T6.lts
    have T7 := T6.setEv (Nat.zero_le _) ⟨by omega, by omega, trivial⟩ Ev.zero
    have hW7 := hW6.fr (setEv14_fr _ (w.heap.size + 1) Ev.zero) (T6.blk _ _ _ List.mem_cons_self) (fun e => by have := (HH.out.1.ra.ge _ e).2; omega)
    have hB7 : Below w.heap.size w (setEv14 W6 (w.heap.size + 1) Ev.zero) := HT6.out.2.trans ((setEv14_fr W6 (w.heap.size + 1) Ev.zero).belowB (by omega) (fun _ h => by cases h) HT6.out.2.size)
    have Z := Lib.hid (And.intro (T7.blk _ _ _ List.mem_cons_self) (And.intro hW7 (hB7.mono (Nat.le_trans HH.out.1.ge (Nat.le_of_lt HH.out.1.blk.lt)))))
    clear T6 T7 hW6 hW7 hB7 HT6 HL6
    go_wp2_with fail
    exact bodyPost_ret (v := .agg (evA Ev.zero)) (results_ev (s := 4) (by kernel_rfl) _ (w.heap.size + 1) Ev.zero _ rfl Z.out.1) rfl ⟨Ev.zero, _, _, _, _, rfl, Z.out.2.1, HH.out.2.1, rfl, by omega, Z.out.2.2⟩
  subst hn0
  obtain ⟨hr, rfl⟩ : readyB k1 e = true ∧ kn' = k1.set o (k1.get o + 1) := by
    rcases HL6.out.2 with ⟨h0, _⟩ | ⟨_, hr, k, hk, hek, rfl⟩
    · exact absurd rfl h0
    · have := HE.out.2.1
      obtain rfl : k = o := by omega
      exact ⟨hr, rfl⟩
  have hmay : emayB e = true := by obtain ⟨_, _, _, _, _, _, _, hm⟩ := ready_facts hr; exact hm
  have HW := Lib.hid (HH.out.2.1.add (g' := g') HN.out.2 HP.out.1 HE.out.1 hmay HE.out.2.1 HE.out.2.2.1 HE.out.2.2.2 hr)
  have hW6 := HH.out.1.call HT6.out.2
  have hL6 := HL6.out.1
  clear hr hmay HL6 T6
  rw [HP.out.2.1] at hW6
  obtain ⟨q, -⟩ := hW6.blk.rules
  have lg := hW6.blk.lt
  have fz := hW6.rl.frozen o
  have lgl6 : gl < W6.heap.size := Nat.lt_of_lt_of_le lgl HT6.out.2.size
  have c3 := hW6.rl.rng ptA_size HP.out.1 0 (.pointer (some ⟨g1, 0, none⟩)) rfl
  rw [show o * 1 + 0 = o from by omega] at c3
  rw [← HP.out.2.1] at hW6
  obtain ⟨hW7, K7⟩ := hW6.turn (y := (g', k1.set o (k1.get o + 1))) HP.out.1 hL6
  have T7 := K7.trk HT6.out.1 (Nat.zero_le _) (fun g t cs hm => by simp at hm; rcases hm with ⟨_, rfl, _⟩ | ⟨_, rfl, _⟩ | ⟨_, rfl, _⟩ <;> decide)
  have HZ := Lib.hid (And.intro hW7 (And.intro T7 (And.intro ((HT6.out.2.mono (Nat.le_trans HH.out.1.ge (Nat.le_of_lt HH.out.1.blk.lt))).trans K7.below) (Nat.le_trans HT6.out.2.size K7.size))))
  clear hW6 hL6 hW7 T7 K7 HT6
  go_upto_region 10 with fail
  generalize W6.setCell _ _ = W7 at HZ ⊢
  clear q lg fz lgl6 c3
  obtain ⟨hW7, T7, hB7, hs7⟩ := HZ.out
  have hbw : base ≤ w.heap.size := Nat.le_trans HH.out.1.ge (Nat.le_of_lt HH.out.1.blk.lt)
  have hb7 : base ≤ W7.heap.size := Nat.le_trans hbw hB7.size
  have hB1 : Below W7.heap.size W7 (W7.alloc (.cells (evA e) 32)).drew := ((Below.refl _ _).alloc (Nat.le_refl _) _).drew
  obtain ⟨v8, W8, happ, row8, K8, hgr, hfr⟩ := RowE.app (base := base) (cap := 1) 49 (hW7.ra.call hB1) (rd_one evA_size (Blk.new W7 32 (evA e)).drew) (by have := HH.out.2.2; simp; omega) (Nat.le_trans hb7 hB1.size)
  simp only [List.length_singleton] at happ
  obtain ⟨A8, c8, rfl, -, -⟩ := row8.sl
  have e5 : (all ++ [e]).length = all.length + 1 := by simp
  rw [e5] at happ row8 hfr
  have hown : ∀ g, (Value.slice Aa all.length ca).ownBlock = some g → g < w.heap.size := fun g hg => (HH.out.1.ra.ge g hg).2
  have keepE : ∀ g t cs, Blk W7 g t cs → w.heap.size ≤ g → Blk W8 g t cs := fun g t cs hb hg => by
    have h1 := hb.call hB1
    exact (hgr.block g h1.lt (fun e => by have := hown g e.symm; omega)).trans h1
  have b1 := keepE _ _ _ (T7.blk (w.heap.size + 1) 32 (evA Ev.zero) (by simp)) (by omega)
  have b2 := keepE _ _ _ (T7.blk ge 32 (evA e) (by simp)) (by omega)
  have bW := K8.blk _ _ _ (hW7.blk.call hB1) (by decide)
  have b9 := bW.set_ 1 (.slice A8 (all.length + 1) c8)
  have K9 : Kt base [51] W8 (W8.setCell ⟨gw, 1, none⟩ (.slice A8 (all.length + 1) c8)) := Kt.setCell bW (by simp) hW7.ge 1 _
  have hW9 : Wld (W8.setCell ⟨gw, 1, none⟩ (.slice A8 (all.length + 1) c8)) base gw _ (.slice A8 (all.length + 1) c8) (ls.set o (g', k1.set o (k1.get o + 1))) (all ++ [e]) := ⟨b9, hW7.ge, K9.row (K8.row (hW7.rl.call hB1) (by decide)) (by decide), K9.row row8 (by decide), fun p hp => (((hW7.led p hp).call hB1).kt K8 (by decide) (by decide) (by decide) (by decide) (by decide) (by decide)).kt K9 (by decide) (by decide) (by decide) (by decide) (by decide) (by decide)⟩
  have b1' := K9.blk _ _ _ b1 (by decide)
  have b2' := K9.blk _ _ _ b2 (by decide)
  have hB9 := hB7.trans ((hB1.mono hb7).trans (K8.below.trans K9.below))
  have hown8 : (Value.slice A8 (all.length + 1) c8).ownBlock ≠ some (w.heap.size + 1) := fun e => by
    rcases hfr with hf | hf
    · rw [hf] at e; have := hown _ e; omega
    · have := hf _ e
      simp at this
      have := (T7.blk (w.heap.size + 1) 32 (evA Ev.zero) (by simp)).lt
      omega
  have hs9 : w.heap.size ≤ (W8.setCell ⟨gw, 1, none⟩ (.slice A8 (all.length + 1) c8)).heap.size := hB9.size
  have T10 := ((Trk.bare (W8.setCell ⟨gw, 1, none⟩ (.slice A8 (all.length + 1) c8))).add b2').add b1'
  obtain ⟨q, -⟩ := hW7.blk.rules
  have lg := hW7.blk.lt
  obtain ⟨q2, -, -, -, -, -, -⟩ := T7.rules
  obtain ⟨l2, -, -, -⟩ := T7.lts
  obtain ⟨q8, f8⟩ := bW.rules
  have lg8 := bW.lt
  have X := Lib.hid (And.intro hW9 (And.intro hB9 (And.intro hown8 (And.intro hs9 T10))))
  clear hW7 T7 hB7 hs7 hB1 row8 K8 hgr hfr hown keepE b1 b2 bW b9 K9 hW9 b1' b2' hB9 hown8 hs9 T10 HZ e5 hb7
  go_region
  clear q lg q2 l2 q8 f8 lg8 happ
  generalize W8.setCell _ _ = W9 at X ⊢
  obtain ⟨q1, f1, q2, -, -⟩ := X.out.2.2.2.2.rules
  obtain ⟨l1, l2, -⟩ := X.out.2.2.2.2.lts
  have T11 := X.out.2.2.2.2.setEv (Nat.zero_le _) ⟨by omega, trivial⟩ e
  have hW11 := X.out.1.fr (setEv14_fr _ (w.heap.size + 1) e) (X.out.2.2.2.2.blk _ _ _ List.mem_cons_self) X.out.2.2.1
  have hB11 : Below base w (setEv14 W9 (w.heap.size + 1) e) := X.out.2.1.trans ((setEv14_fr W9 (w.heap.size + 1) e).belowB (by omega) (fun _ h => by cases h) (Nat.le_trans hbw X.out.2.2.2.1))
  have Z := Lib.hid (And.intro (T11.blk _ _ _ List.mem_cons_self) (And.intro hW11 hB11))
  clear T11 hW11 hB11 X
  go_wp2_with fail
  exact bodyPost_ret (v := .agg (evA e)) (results_ev (s := 4) (by kernel_rfl) _ (w.heap.size + 1) e _ rfl Z.out.1) rfl ⟨e, _, _, _, _, rfl, Z.out.2.1, HW.out, by simp, by simp, Z.out.2.2⟩
end
end Go.Proofs.Ytgbbhkdaalnchaa
