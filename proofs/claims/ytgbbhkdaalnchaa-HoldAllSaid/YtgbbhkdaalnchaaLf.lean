/-
  The walk of the document's package leatref11: frees.
-/
import Derived.Test.YtgbbhkdaalnchaaLj
namespace Go.Proofs.Ytgbbhkdaalnchaa
set_option linter.unusedVariables false
set_option linter.unusedSimpArgs false
open Go.RowKit Go Go.BigFrame
set_option maxRecDepth 100000

section
variable {w w' : World} {base g : Nat} {inn : Nat → Bool} {kn : Vec} {vn vg : Value} {gt : Nat} {vl : Value} {vr : Nat → Value} {ns : List Nd} {gs : List Grt} {t : List Tn} {rs : Nat → List Int} {cnt : Nat}
set_option maxHeartbeats 4000000 in
theorem lfrees (h : Led w base g inn kn vn vg gt vl vr ns gs t rs) (ok : LOk ns gs t rs cnt) (e : Ev) (ho : e.ok) (k : Nat) (hk : k < 6) (hek : e.o = (k : Int) + 1) (hc : cnt ≤ 900) :
    Calls Try.prog 73 #[.pointer (some ⟨g, 0, none⟩), .agg (evA e)] w (DoesPost base g kn (cnt + 1) w) := by
  obtain ⟨An, cn, rfl, hcn, hmn⟩ := h.rn.sl
  obtain ⟨Ag, cg, rfl, hcg, hmg⟩ := h.rg.sl
  unfold maxLen at hmn hmg
  obtain ⟨o, s, d, kd, n, tt, am, rq, f⟩ := e
  obtain rfl : o = (k : Int) + 1 := hek
  have T0 : Trk w _ [(w.heap.size, 32, evA (⟨(k : Int) + 1, s, d, kd, n, tt, am, rq, f⟩ : Ev))] := (Trk.nil w).push (t := 32) (cs := evA (⟨(k : Int) + 1, s, d, kd, n, tt, am, rq, f⟩ : Ev)) rfl
  have HH := Lib.hid h
  have HO := Lib.hid ok
  have hns : ns.length ≤ 32 := by have := ok.len; have := ok.l32; omega
  have hbs := h.lt
  have k0 : (0 : Int) ≤ (k : Int) := by omega
  have k6 : (k : Int) < 6 := by omega
  have CQ := Lib.hid (lasked (h.call T0.below) k hk rq)
  have CG := Lib.hid (lgrant (h.call T0.below) ((k : Int) + 1) f)
  have HT := Lib.hid T0
  clear h ok T0 ho
  go_enter Try.func73, Try.ntmps73
  go_wp2_with fail
  generalize w.alloc _ = W at HT CQ CG ⊢
  refine CQ.out.mono ?_
  rintro r w1 ⟨⟨b, rfl⟩, rfl⟩
  clear CQ
  rcases (show b = true ∨ b = false from by cases b <;> simp) with rfl | rfl
  · go_wp2_with fail
    go_ret
    exact DoesPost.no (by decide) (HT.out.below.mono hbs)
  rcases seek_cases (grIs ((k : Int) + 1) f) gs with ⟨hm, _⟩ | ⟨m, y, hm, hy, _⟩
  · rw [hm] at CG
    have CG1 := Lib.hid CG.out
    obtain ⟨q1, -, -⟩ := HT.out.rules
    have lt := HT.out.lt
    clear CG hm
    go_wp2_with fail
    refine CG1.out.mono ?_
    rintro r w1 ⟨rfl, rfl⟩
    go_wp2_with fail
    go_ret
    exact DoesPost.no (by decide) (HT.out.below.mono hbs)
  rw [hm] at CG
  have CG1 := Lib.hid CG.out
  clear CG hm
  have hL := HH.out.call HT.out.below
  have hml : m < gs.length := (List.getElem?_eq_some_iff.1 hy).1
  obtain ⟨g1, cg2, e0, -, -, -, lg1⟩ := hL.rg.sl_pos (by omega)
  injection e0 with e1 e2 e3
  subst e1; subst e3
  have hyb : W.cell? ⟨g1, m * 5 + 4, none⟩ = some (.int .u64 y.b) := hL.rg.rng grA_size hy 4 _ rfl
  have hyn : W.cell? ⟨g1, m * 5 + 2, none⟩ = some (.int .u64 y.n) := hL.rg.rng grA_size hy 2 _ rfl
  obtain ⟨q, -⟩ := hL.blk.rules
  obtain ⟨q1, -, -⟩ := HT.out.rules
  have lg := hL.blk.lt
  have lt := HT.out.lt
  obtain ⟨bb, hbb⟩ : ∃ b, (y.b != 0) = b := ⟨_, rfl⟩
  have HY := Lib.hid hy
  have dm : decide ((m : Int) < 0) = false := by simp
  clear hL hy e2
  rcases (show bb = true ∨ bb = false from by cases bb <;> simp) with rfl | rfl
  · go_wp2_with fail
    refine CG1.out.mono ?_
    rintro r w1 ⟨rfl, rfl⟩
    go_wp2_with fail
    go_ret
    exact DoesPost.no (by decide) (HT.out.below.mono hbs)
  go_wp2_with fail
  refine CG1.out.mono ?_
  rintro r w1 ⟨rfl, rfl⟩
  clear CG1
  go_upto_region 6 with fail
  refine wp_region_quietTail 13 (by kernel_rfl) (by simp) (by kernel_rfl) (by kernel_rfl) (by kernel_rfl) (by kernel_rfl) ?_
  simp only [List.take_succ_cons, List.take_zero, List.drop_succ_cons, List.drop_zero]
  repeat (go_big_quiet_step (fail))
  refine wpQuiet_nil ?_
  intro _ hw'
  obtain ⟨nq, hw''⟩ := hw'
  subst hw''
  have HT2 := Lib.hid (HT.out.drewN nq)
  have CP := Lib.hid (rpath (HH.out.call HT2.out.below).tre HO.out.tok (by have := HO.out.l32; omega) y.n)
  generalize W.drewN nq = W2 at HT2 CP ⊢
  clear HT q q1 lg lt hyb hyn hbb dm lg1
  go_wp2_with fail
  refine CP.out.mono ?_
  rintro r w2 ⟨u, l, rfl, hrow, hll, hmem, hb2⟩
  obtain ⟨Ap, cp, rfl, hcp, hmp⟩ := hrow.sl
  unfold maxLen at hmp
  have HT3 := Lib.hid (HT2.out.call hb2)
  have HP := Lib.hid (And.intro hrow (And.intro hll hmem))
  clear hrow hll hmem HT2 CP
  have hbw : Below base w w2 := HT3.out.below.mono hbs
  have hLi := HH.out.call HT3.out.below
  have bE := HT3.out.blk w.heap.size 32 (evA (⟨(k : Int) + 1, s, d, kd, n, tt, am, rq, f⟩ : Ev)) (by simp)
  have hlen : l.length ≤ 32 := Nat.le_trans HP.out.2.1 HO.out.l32
  have Y := Lib.hid (And.intro hbw (And.intro hLi (And.intro bE HP.out.1)))
  have HM := Lib.hid HP.out.2.2
  clear hbw hLi bE HT3 HP hb2
  go_wp2_with fail
  go_loopw [7, 8, 9, 10] (fun s6 _ _ _ wr => ∃ (i : Nat) (ns' : List Nd), i ≤ l.length ∧ s6 = .int .i64 i ∧ Below base w wr ∧ Led wr base g inn kn (.slice An ns.length cn) (.slice (some ⟨g1, 0, none⟩) gs.length cg) gt vl vr ns' gs t rs ∧ ns'.map (·.id) = ns.map (·.id) ∧ Blk wr w.heap.size 32 (evA (⟨(k : Int) + 1, s, d, kd, n, tt, am, rq, f⟩ : Ev)) ∧ RowU wr W2.heap.size (.slice Ap l.length cp) l) (fun s6 _ _ _ _ => l.length - (intOf s6).toNat)
  case atStart => exact ⟨0, ns, by omega, rfl, Y.out.1, Y.out.2.1, rfl, Y.out.2.2.1, Y.out.2.2.2⟩
  case round =>
    obtain ⟨i, ns', hi, rfl, hbw, hL, hids, bE, hrow⟩ := hrel
    clear Y
    obtain ⟨wo, rfl⟩ : ∃ wo : World, wo = wr := ⟨_, rfl⟩
    by_cases hlt : i < l.length
    · have hd : decide (i < l.length) = true := decide_eq_true hlt
      obtain ⟨id, hid⟩ : ∃ id, l[i]? = some id := ⟨l[i], List.getElem?_eq_getElem hlt⟩
      obtain ⟨gp, cp2, e0, -, -, -, lp⟩ := hrow.sl_pos (by omega)
      injection e0 with e1 e2 e3
      subst e1; subst e3
      have hp0 := hrow.rng u64A_size hid 0 (.int .u64 id) rfl
      have hp : wo.cell? ⟨gp, i, none⟩ = some (.int .u64 id) := by rw [show i * 1 + 0 = i from by omega] at hp0; exact hp0
      obtain ⟨yt, hyt, hyti⟩ := HM.out id (List.mem_of_getElem? hid)
      have ok' := HO.out.same hids
      obtain ⟨j, x, hj, hx, hxi⟩ := nd_seek (ns := ns') (id := id) (by obtain ⟨z, hz, e⟩ := ok'.ids yt hyt; exact ⟨z, hz, e.trans hyti⟩)
      have C1 := lnode hL id
      rw [hj] at C1
      have C2 := Lib.hid C1
      have hjl : j < ns.length := by have h1 := (List.getElem?_eq_some_iff.1 hx).1; have h2 := congrArg List.length hids; simp at h2; omega
      obtain ⟨gn, cn2, e0, -, -, -, ln⟩ := hL.rn.sl_pos (by have h1 := (List.getElem?_eq_some_iff.1 hx).1; omega)
      injection e0 with e1 e2' e3'
      subst e1
      have hR : Rng wo gn (j * 56 + 2) (rtA x.r) := nd_rights hL.rn hx
      have hldx : ∀ X : Later wo, (ldR 110 (.pointer (some ⟨gn, j * 56 + 2, none⟩))).run Try.prog X.w = .ok (.value (.agg (rtA x.r))) X.w := fun X =>
        run_ldR (fun a v hv => by rw [X.cell gn _ ln]; exact hR a v hv) Try.underlying110 rfl (size_rt _)
      obtain ⟨q, -⟩ := hL.blk.rules
      obtain ⟨q1, -⟩ := bE.rules
      have hya : wo.cell? ⟨g1, m * 5 + 3, none⟩ = some (.int .i64 y.a) := hL.rg.rng grA_size HY.out 3 _ rfl
      have lg1 := (hL.rg.ge g1 rfl).2
      have lg := hL.blk.lt
      have lE := bE.lt
      have Z := Lib.hid (And.intro hbw (And.intro hL (And.intro hids (And.intro bE (And.intro hrow (And.intro hx hR))))))
      clear hbw hL hids bE hrow hx hR hp0 hid hyt hyti ok' hj hxi C1
      go_wp2_with fail
      refine C2.out.mono ?_
      rintro r w4 ⟨rfl, rfl⟩
      clear C2
      go_upto_region 11 with fail
      refine wp_region_ls (C := fun w' => ∃ x : Later wo, w' = x.w) 20 (rtE wo) (by kernel_rfl) (by simp) (by kernel_rfl) (by kernel_rfl) ⟨⟨_, (Below.refl _ _).drew⟩, rfl⟩ (fun _ _ => Srt.refl) ?_
      simp only [List.take_succ_cons, List.take_zero, List.drop_succ_cons, List.drop_zero]
      repeat (go_big_quiet_step (fail))
      refine wpQuiet_nil ?_
      intro F0 hF0
      clear q q1 hldx hp hya lg1
      refine lr_call rfl rfl 85 #[.agg (rtA x.r), .int .i64 ((k : Int) + 1), .int .i64 y.a] (by intro W0; simp [go_sem] <;> rfl) (fun W0 => rfree x.r k hk y.a W0) ?_
      rintro u13 ⟨f1, n1, rfl⟩
      refine lr_pure rfl isTup _ rfl (.tuple #[.agg (rtA f1), .int .i64 n1]) ⟨f1, n1, rfl⟩ (fun W0 => by simp [execOp, go_sem]) ?_
      rintro u14 ⟨f2, n2, rfl⟩
      refine lr_pure rfl isRt _ rfl (.agg (rtA f2)) ⟨f2, rfl⟩ (fun W0 => by simp [execOp, go_sem]) ?_
      rintro u15 ⟨f3, rfl⟩
      refine lr_pure rfl isInt _ rfl (.int .i64 n2) ⟨n2, rfl⟩ (fun W0 => by simp [execOp, go_sem]) ?_
      rintro u16 ⟨n3, rfl⟩
      refine lr_new rfl rfl (fun W0 => by simp [execOp, go_sem]) ?_
      rintro u17 ⟨g8, rfl⟩
      refine lr_store rfl rfl 24 _ rfl (Or.inl ⟨rfl, rfl⟩) rfl f3 (fun W0 => by simp [go_sem]) ?_
      refine lr_pure rfl isInt _ rfl (.int .i64 n3) ⟨n3, rfl⟩ (fun W0 => by simp [execOp, go_sem]) ?_
      rintro u19 ⟨n4, rfl⟩
      rintro w5 ⟨x5, rfl⟩ hF5
      obtain ⟨g9, e9, hg9, f9, hb9⟩ := lr_end (k := 24) (Or.inr (Or.inr (Or.inl ⟨rfl, rfl⟩))) rfl hF5
      obtain rfl : g8 = g9 := by simpa using e9
      have hb5 := x5.below
      have Z5 := Lib.hid (And.intro (Z.out.1.trans (hb5.mono (Nat.le_trans hbs (by have := lE; omega)))) (And.intro (Z.out.2.1.call hb5) (And.intro (Z.out.2.2.2.1.call hb5) (Z.out.2.2.2.2.1.call hb5))))
      generalize x5.w = W5 at Z5 hb9 ⊢
      clear hF5 hF0 e9 hb5 lE lg ln lp
      by_cases hn4 : n4 = 0
      rotate_left
      · have dn : (n4 != 0) = true := by simp [hn4]
        have HN := Lib.hid hn4
        clear hn4
        go_wp2_with fail
        go_ret
        exact DoesPost.no HN.out Z5.out.1
      subst hn4
      have hL5 := Z5.out.2.1
      have lj : j < ns'.length := (List.getElem?_eq_some_iff.1 Z.out.2.2.2.2.2.1).1
      obtain ⟨w6, hst, hR6, hK6⟩ := (hL5.rn.call (Below.refl _ _).drew).put (P := Try.prog) ndA_size (i := j) lj Z.out.2.2.2.2.2.1 110 2 (rtA f9) (size_rt f9) (by rw [rtA_size]; omega) (rtA_cell f9) (y := { x with r := f9 }) (ndA_put x f9) (ts := [112]) (by simp)
      have hld := run_ldR (P := Try.prog) hb9.drew.rng Try.underlying110 rfl (size_rt f9)
      obtain ⟨q, -⟩ := hL5.blk.rules
      have lg := hL5.blk.lt
      have K6 : Kt base [112] W5 w6 := Kt.drew.trans hK6
      have Z6 := Lib.hid (And.intro (Z5.out.1.trans K6.below) (And.intro (hL5.nodes (K6.more (by simp)) (K6.blk _ _ _ hL5.blk (by decide)) hR6) (And.intro ((ids_set Z.out.2.2.2.2.2.1 (y := { x with r := f9 }) rfl).trans Z.out.2.2.1) (And.intro (K6.blk _ _ _ Z5.out.2.2.1 (by decide)) (K6.row Z5.out.2.2.2 (by decide))))))
      clear hL5 hR6 hK6 K6 Z hb9
      go_upto_region 14 with fail
      go_region
      clear q lg hst hld Z5
      go_wp2_with fail
      go_roundw
      case rel => exact ⟨i + 1, _, by omega, by go_num, Z6.out.1, Z6.out.2.1, Z6.out.2.2.1, Z6.out.2.2.2.1, Z6.out.2.2.2.2⟩
      case measure => simp [intOf]; omega
    · have hd : decide (i < l.length) = false := decide_eq_false hlt
      have hD := hL.call (Below.refl _ _).drew
      obtain ⟨hRc, hKc⟩ := hD.rg.cell grA_size HY.out (y := { y with b := rq }) 4 (.int .u64 rq) (by decide) rfl (ts := [130]) (by simp)
      have hs1 : (wo.setCell ⟨g1, m * 5 + 4, none⟩ (.int .u64 rq)).drew = wo.drew.setCell ⟨g1, m * 5 + 4, none⟩ (.int .u64 rq) := by simp [World.setCell_drew]
      rw [← hs1] at hRc hKc
      have K7 : Kt base [46, 130] wo (wo.setCell ⟨g1, m * 5 + 4, none⟩ (.int .u64 rq)).drew := Kt.drew.trans (hKc.more (by simp))
      have hb7 := K7.blk
      have hyb : wo.cell? ⟨g1, m * 5 + 4, none⟩ = some (.int .u64 y.b) := hL.rg.rng grA_size HY.out 4 _ rfl
      have hfz := hL.rg.frozen
      have lg1 := (hL.rg.ge g1 rfl).2
      have hL7 := hL.grants K7 (hKc.blk _ _ _ hL.blk.drew (by decide)) hRc
      have bE7 := hKc.blk _ _ _ bE.drew (by decide)
      have hbw7 := hbw.trans K7.below
      have Hids := Lib.hid hids
      obtain ⟨q, -⟩ := hL.blk.rules
      obtain ⟨q1, -⟩ := bE.rules
      have lg := hL.blk.lt
      have lE := bE.lt
      have X := Lib.hid (And.intro hL7 (And.intro bE7 hbw7))
      clear hRc hKc hs1 K7 hb7 hL7 bE7 hbw7 hD hL hids bE hbw hrow
      go_upto_region 15 with fail
      go_region
      generalize (wo.setCell _ _).drew = w7 at X ⊢
      clear q q1 lg lE hyb hfz lg1
      obtain ⟨hL7, bE7, hbw7⟩ := X.out
      clear X
      have hB8 : Below w7.heap.size w7 (w7.alloc (.cells (u64A rq) 28)).drew := ((Below.refl _ _).alloc (Nat.le_refl _) _).drew
      obtain ⟨v', w8, happ, rowU, hk8, hgr8, hfr8⟩ := RowU.app (base := base) (cap := 1) 43 ((hL7.rr k hk).call hB8) (rd_one u64A_size (Blk.new w7 28 (u64A rq)).drew) (by have := HO.out.rl k hk; simp; omega) (Nat.le_trans hL7.lt hB8.size)
      obtain ⟨Au, cu, hvu, -, -⟩ := rowU.sl
      rw [List.length_append, List.length_singleton] at hvu
      subst hvu
      have hb8 := hk8.blk _ _ _ (hL7.blk.call hB8) (by decide)
      have hL9 := hL7.req hk hB8 rowU hk8 hgr8 hfr8
      have c7 := ledA_r inn kn (.slice An ns.length cn) (.slice (some ⟨g1, 0, none⟩) gs.length cg) gt vr k hk
      obtain ⟨q7, -⟩ := hL7.blk.rules
      obtain ⟨qe7, -⟩ := bE7.rules
      obtain ⟨q8, f8⟩ := hb8.rules
      have lg7 := hL7.blk.lt
      have le7 := bE7.lt
      have lg8 := hb8.lt
      have FIN := Lib.hid (And.intro ((hbw7.trans (hB8.mono hL7.lt)).trans (hk8.below.trans (Kt.setCell (base := base) (ts := [46]) hb8 (by simp) hL7.ge (21 + k) (.slice Au ((rs k).length + 1) cu)).below)) hL9)
      simp only [List.length_singleton, u64A] at happ
      obtain ⟨qe8, -⟩ := (hk8.blk _ _ _ (bE7.call hB8) (by decide)).rules
      have le8 := (hk8.blk _ _ _ (bE7.call hB8) (by decide)).lt
      clear hL7 rowU hk8 hgr8 hfr8 hb8 hL9 bE7 hbw7 hB8
      go_upto_region 16 with fail
      go_region
      clear q7 qe7 q8 f8 lg7 le7 lg8 happ c7 qe8 le8
      go_wp2_with fail
      go_ret
      exact ⟨0, rfl, FIN.out.1, fun _ => ⟨_, _, _, _, _, _, _, _, _, _, FIN.out.2, (HO.out.same Hids.out).req (by simp)⟩⟩
end
end Go.Proofs.Ytgbbhkdaalnchaa
