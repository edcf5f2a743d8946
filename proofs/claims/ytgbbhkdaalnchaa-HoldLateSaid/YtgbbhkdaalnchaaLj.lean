/-
  The walk of the document's package leatref11: takes.
-/
import Derived.Test.YtgbbhkdaalnchaaLk
namespace Go.Proofs.Ytgbbhkdaalnchaa
set_option linter.unusedVariables false
set_option linter.unusedSimpArgs false
open Go.RowKit Go Go.BigFrame
set_option maxRecDepth 100000

section
variable {w w' : World} {base g : Nat} {inn : Nat → Bool} {kn : Vec} {vn vg : Value} {gt : Nat} {vl : Value} {vr : Nat → Value} {ns : List Nd} {gs : List Grt} {t : List Tn} {rs : Nat → List Int} {cnt : Nat}
/-- The nodes' rights have turned. -/
theorem LOk.same {ns' : List Nd} (h : LOk ns gs t rs cnt) (e : ns'.map (·.id) = ns.map (·.id)) : LOk ns' gs t rs cnt := by
  have hl : ns'.length = ns.length := by have := congrArg List.length e; simpa using this
  refine ⟨h.tok, by rw [hl]; exact h.len, h.l32, fun x hx => ?_, h.gl, h.rl, fun y hy => ?_⟩
  rotate_left
  · have h1 : y.id ∈ ns.map (·.id) := by rw [← e]; exact List.mem_map.2 ⟨y, hy, rfl⟩
    obtain ⟨z, hz, hz2⟩ := List.mem_map.1 h1
    rw [← hz2]; exact h.rng z hz
  obtain ⟨y, hy, hi⟩ := h.ids x hx
  have h1 : y.id ∈ ns'.map (·.id) := by rw [e]; exact List.mem_map.2 ⟨y, hy, rfl⟩
  obtain ⟨z, hz, hz2⟩ := List.mem_map.1 h1
  exact ⟨z, hz, hz2.trans hi⟩
theorem ids_set {i : Nat} {x y : Nd} (hx : ns[i]? = some x) (hy : y.id = x.id) : (ns.set i y).map (·.id) = ns.map (·.id) := by
  rw [List.map_set, hy]
  apply List.ext_getElem?
  intro j
  rw [List.getElem?_set]
  by_cases e : i = j
  · subst e
    have hlt : i < (ns.map (·.id)).length := by simpa using (List.getElem?_eq_some_iff.1 hx).1
    rw [if_pos rfl, if_pos hlt, List.getElem?_map, hx]; rfl
  · rw [if_neg e]
theorem nd_seek {id : Int} (h : ∃ y ∈ ns, y.id = id) : ∃ (j : Nat) (x : Nd), seek (ndId id) ns = j ∧ ns[j]? = some x ∧ x.id = id := by
  obtain ⟨y, hy, e⟩ := h
  obtain ⟨j, x, h1, h2, h3⟩ := seek_ge hy (show ndId id y = true by simp [ndId, e])
  exact ⟨j, x, h1, h2, by simpa [ndId] using h3⟩
theorem nd_rights {g cap n : Nat} (h : RowN w base (.slice (some ⟨g, 0, none⟩) n cap) ns) {j : Nat} {x : Nd} (hx : ns[j]? = some x) : Rng w g (j * 56 + 2) (rtA x.r) := fun i v hv => by
  have := h.rng ndA_size hx (2 + i) v (by rw [ndA_r]; exact hv)
  rw [Nat.add_assoc]; exact this
set_option maxHeartbeats 4000000 in
theorem ltakes (h : Led w base g inn kn vn vg gt vl vr ns gs t rs) (ok : LOk ns gs t rs cnt) (e : Ev) (ho : e.ok) (k : Nat) (hk : k < 6) (hek : e.o = (k : Int) + 1) (hc : cnt ≤ 900) :
    Calls Try.prog 72 #[.pointer (some ⟨g, 0, none⟩), .agg (evA e)] w (DoesPost base g kn (cnt + 1) w) := by
  obtain ⟨An, cn, rfl, hcn, hmn⟩ := h.rn.sl
  obtain ⟨Ag, cg, rfl, hcg, hmg⟩ := h.rg.sl
  unfold maxLen at hmn hmg
  obtain ⟨o, s, d, kd, n, tt, am, rq, f⟩ := e
  obtain rfl : o = (k : Int) + 1 := hek
  have T0 : Trk w _ [(w.heap.size, 32, evA (⟨(k : Int) + 1, s, d, kd, n, tt, am, rq, f⟩ : Ev))] := (Trk.nil w).push (t := 32) (cs := evA (⟨(k : Int) + 1, s, d, kd, n, tt, am, rq, f⟩ : Ev)) rfl
  have HH := Lib.hid h
  have HO := Lib.hid ok
  have hns : ns.length ≤ 32 := by have := ok.len; have := ok.l32; omega
  have hbs := h.lt
  have k0 : (0 : Int) ≤ (k : Int) := by omega
  have k6 : (k : Int) < 6 := by omega
  have CQ := Lib.hid (lasked (h.call T0.below) k hk rq)
  have HT := Lib.hid T0
  clear h ok T0 ho
  go_enter Try.func72, Try.ntmps72
  go_wp2_with fail
  generalize w.alloc _ = W at HT CQ ⊢
  refine CQ.out.mono ?_
  rintro r w1 ⟨⟨b, rfl⟩, rfl⟩
  clear CQ
  rcases (show b = true ∨ b = false from by cases b <;> simp) with rfl | rfl
  · go_wp2_with fail
    go_ret
    exact DoesPost.no (by decide) (HT.out.below.mono hbs)
  have hL := HH.out.call HT.out.below
  obtain ⟨q, -⟩ := hL.blk.rules
  obtain ⟨q1, -, -⟩ := HT.out.rules
  have lg := hL.blk.lt
  have lt := HT.out.lt
  clear hL
  go_upto_region 3 with fail
  refine wp_region_quietTail 6 (by kernel_rfl) (by simp) (by kernel_rfl) (by kernel_rfl) (by kernel_rfl) (by kernel_rfl) ?_
  simp only [List.take_succ_cons, List.take_zero, List.drop_succ_cons, List.drop_zero]
  repeat (go_big_quiet_step (fail))
  refine wpQuiet_nil ?_
  intro _ hw'
  obtain ⟨nq, hw''⟩ := hw'
  subst hw''
  have HT2 := Lib.hid (HT.out.drewN nq)
  have CP := Lib.hid (rpath (HH.out.call HT2.out.below).tre HO.out.tok (by have := HO.out.l32; omega) n)
  generalize W.drewN nq = W2 at HT2 CP ⊢
  clear HT q q1 lg lt
  go_wp2_with fail
  refine CP.out.mono ?_
  rintro r w2 ⟨u, l, rfl, hrow, hll, hmem, hb2⟩
  obtain ⟨Ap, cp, rfl, hcp, hmp⟩ := hrow.sl
  unfold maxLen at hmp
  have HT3 := Lib.hid (HT2.out.call hb2)
  have HP := Lib.hid (And.intro hrow (And.intro hll hmem))
  clear hrow hll hmem HT2 CP
  by_cases hl0 : l.length = 0
  · have d0 : ((l.length : Int) == 0) = true := by simp [hl0]
    have HL0 := Lib.hid hl0
    clear hl0 hb2
    go_wp2_with fail
    go_ret
    exact DoesPost.no (by decide) (HT3.out.below.mono hbs)
  have d0 : ((l.length : Int) == 0) = false := by rw [beq_eq_false_iff_ne]; omega
  have hbw : Below base w w2 := HT3.out.below.mono hbs
  have hLi := HH.out.call HT3.out.below
  have bE := HT3.out.blk w.heap.size 32 (evA (⟨(k : Int) + 1, s, d, kd, n, tt, am, rq, f⟩ : Ev)) (by simp)
  have hlen : l.length ≤ 32 := Nat.le_trans HP.out.2.1 HO.out.l32
  have Y := Lib.hid (And.intro hbw (And.intro hLi (And.intro bE HP.out.1)))
  have HM := Lib.hid HP.out.2.2
  clear hbw hLi bE hl0 HT3 HP hb2
  go_wp2_with fail
  go_loopw [6, 7, 8, 9] (fun s6 _ _ _ wr => ∃ (i : Nat) (ns' : List Nd), i ≤ l.length ∧ s6 = .int .i64 i ∧ Below base w wr ∧ Led wr base g inn kn (.slice An ns.length cn) (.slice Ag gs.length cg) gt vl vr ns' gs t rs ∧ ns'.map (·.id) = ns.map (·.id) ∧ Blk wr w.heap.size 32 (evA (⟨(k : Int) + 1, s, d, kd, n, tt, am, rq, f⟩ : Ev)) ∧ RowU wr W2.heap.size (.slice Ap l.length cp) l) (fun s6 _ _ _ _ => l.length - (intOf s6).toNat)
  case atStart => exact ⟨0, ns, by omega, rfl, Y.out.1, Y.out.2.1, rfl, Y.out.2.2.1, Y.out.2.2.2⟩
  case round =>
    obtain ⟨i, ns', hi, rfl, hbw, hL, hids, bE, hrow⟩ := hrel
    clear Y
    obtain ⟨wo, rfl⟩ : ∃ wo : World, wo = wr := ⟨_, rfl⟩
    by_cases hlt : i < l.length
    · have hd : decide (i < l.length) = true := decide_eq_true hlt
      obtain ⟨id, hid⟩ : ∃ id, l[i]? = some id := ⟨l[i], List.getElem?_eq_getElem hlt⟩
      obtain ⟨gp, cp2, e0, -, -, -, lp⟩ := hrow.sl_pos (by omega)
      injection e0 with e1 e2 e3
      subst e1; subst e3
      have hp0 := hrow.rng u64A_size hid 0 (.int .u64 id) rfl
      have hp : wo.cell? ⟨gp, i, none⟩ = some (.int .u64 id) := by rw [show i * 1 + 0 = i from by omega] at hp0; exact hp0
      obtain ⟨y, hy, hyi⟩ := HM.out id (List.mem_of_getElem? hid)
      have ok' := HO.out.same hids
      obtain ⟨j, x, hj, hx, hxi⟩ := nd_seek (ns := ns') (id := id) (by obtain ⟨z, hz, e⟩ := ok'.ids y hy; exact ⟨z, hz, e.trans hyi⟩)
      have C1 := lnode hL id
      rw [hj] at C1
      have C2 := Lib.hid C1
      have hjl : j < ns.length := by have h1 := (List.getElem?_eq_some_iff.1 hx).1; have h2 := congrArg List.length hids; simp at h2; omega
      obtain ⟨gn, cn2, e0, -, -, -, ln⟩ := hL.rn.sl_pos (by have h1 := (List.getElem?_eq_some_iff.1 hx).1; omega)
      injection e0 with e1 e2' e3'
      subst e1
      have hR : Rng wo gn (j * 56 + 2) (rtA x.r) := nd_rights hL.rn hx
      have hldx : ∀ X : Later wo, (ldR 110 (.pointer (some ⟨gn, j * 56 + 2, none⟩))).run Try.prog X.w = .ok (.value (.agg (rtA x.r))) X.w := fun X =>
        run_ldR (fun a v hv => by rw [X.cell gn _ ln]; exact hR a v hv) Try.underlying110 rfl (size_rt _)
      obtain ⟨q, -⟩ := hL.blk.rules
      obtain ⟨q1, -⟩ := bE.rules
      have lg := hL.blk.lt
      have lE := bE.lt
      have Z := Lib.hid (And.intro hbw (And.intro hL (And.intro hids (And.intro bE (And.intro hrow (And.intro hx hR))))))
      clear hbw hL hids bE hrow hx hR hp0 hid hy hyi ok' hj hxi C1
      go_wp2_with fail
      refine C2.out.mono ?_
      rintro r w4 ⟨rfl, rfl⟩
      clear C2
      go_upto_region 10 with fail
      refine wp_region_ls (C := fun w' => ∃ x : Later wo, w' = x.w) 13 (rtE wo) (by kernel_rfl) (by simp) (by kernel_rfl) (by kernel_rfl) ⟨⟨_, (Below.refl _ _).drew⟩, rfl⟩ (fun _ _ => Srt.refl) ?_
      simp only [List.take_succ_cons, List.take_zero, List.drop_succ_cons, List.drop_zero]
      repeat (go_big_quiet_step (fail))
      refine wpQuiet_nil ?_
      intro F0 hF0
      clear q q1 hldx hp
      refine lr_call rfl rfl 83 #[.agg (rtA x.r), .int .i64 ((k : Int) + 1), .int .i64 am] (by intro W0; simp [go_sem] <;> rfl) (fun W0 => r7take x.r k hk am W0) ?_
      rintro u13 ⟨f1, n1, rfl⟩
      refine lr_pure rfl isTup _ rfl (.tuple #[.agg (rtA f1), .int .i64 n1]) ⟨f1, n1, rfl⟩ (fun W0 => by simp [execOp, go_sem]) ?_
      rintro u14 ⟨f2, n2, rfl⟩
      refine lr_pure rfl isRt _ rfl (.agg (rtA f2)) ⟨f2, rfl⟩ (fun W0 => by simp [execOp, go_sem]) ?_
      rintro u15 ⟨f3, rfl⟩
      refine lr_pure rfl isInt _ rfl (.int .i64 n2) ⟨n2, rfl⟩ (fun W0 => by simp [execOp, go_sem]) ?_
      rintro u16 ⟨n3, rfl⟩
      refine lr_new rfl rfl (fun W0 => by simp [execOp, go_sem]) ?_
      rintro u17 ⟨g8, rfl⟩
      refine lr_store rfl rfl 17 _ rfl (Or.inl ⟨rfl, rfl⟩) rfl f3 (fun W0 => by simp [go_sem]) ?_
      refine lr_pure rfl isInt _ rfl (.int .i64 n3) ⟨n3, rfl⟩ (fun W0 => by simp [execOp, go_sem]) ?_
      rintro u19 ⟨n4, rfl⟩
      rintro w5 ⟨x5, rfl⟩ hF5
      obtain ⟨g9, e9, hg9, f9, hb9⟩ := lr_end (k := 17) (Or.inr (Or.inr (Or.inl ⟨rfl, rfl⟩))) rfl hF5
      obtain rfl : g8 = g9 := by simpa using e9
      have hb5 := x5.below
      have Z5 := Lib.hid (And.intro (Z.out.1.trans (hb5.mono (Nat.le_trans hbs (by have := lE; omega)))) (And.intro (Z.out.2.1.call hb5) (And.intro (Z.out.2.2.2.1.call hb5) (Z.out.2.2.2.2.1.call hb5))))
      generalize x5.w = W5 at Z5 hb9 ⊢
      clear hF5 hF0 e9 hb5 lE lg ln lp
      by_cases hn4 : n4 = 0
      rotate_left
      · have dn : (n4 != 0) = true := by simp [hn4]
        have HN := Lib.hid hn4
        clear hn4
        go_wp2_with fail
        go_ret
        exact DoesPost.no HN.out Z5.out.1
      subst hn4
      have hL5 := Z5.out.2.1
      have lj : j < ns'.length := (List.getElem?_eq_some_iff.1 Z.out.2.2.2.2.2.1).1
      obtain ⟨w6, hst, hR6, hK6⟩ := (hL5.rn.call (Below.refl _ _).drew).put (P := Try.prog) ndA_size (i := j) lj Z.out.2.2.2.2.2.1 110 2 (rtA f9) (size_rt f9) (by rw [rtA_size]; omega) (rtA_cell f9) (y := { x with r := f9 }) (ndA_put x f9) (ts := [112]) (by simp)
      have hld := run_ldR (P := Try.prog) hb9.drew.rng Try.underlying110 rfl (size_rt f9)
      obtain ⟨q, -⟩ := hL5.blk.rules
      have lg := hL5.blk.lt
      have K6 : Kt base [112] W5 w6 := Kt.drew.trans hK6
      have Z6 := Lib.hid (And.intro (Z5.out.1.trans K6.below) (And.intro (hL5.nodes (K6.more (by simp)) (K6.blk _ _ _ hL5.blk (by decide)) hR6) (And.intro ((ids_set Z.out.2.2.2.2.2.1 (y := { x with r := f9 }) rfl).trans Z.out.2.2.1) (And.intro (K6.blk _ _ _ Z5.out.2.2.1 (by decide)) (K6.row Z5.out.2.2.2 (by decide))))))
      clear hL5 hR6 hK6 K6 Z hb9
      go_upto_region 13 with fail
      go_region
      clear q lg hst hld Z5
      go_wp2_with fail
      go_roundw
      case rel => exact ⟨i + 1, _, by omega, by go_num, Z6.out.1, Z6.out.2.1, Z6.out.2.2.1, Z6.out.2.2.2.1, Z6.out.2.2.2.2⟩
      case measure => simp [intOf]; omega
    · have hd : decide (i < l.length) = false := decide_eq_false hlt
      have hB1 : Below wo.heap.size wo (wo.alloc (.cells #[.int .i64 0, .int .u64 0, .int .u64 0, .int .i64 0, .int .u64 0] 130)) := (Below.refl _ _).alloc (Nat.le_refl _) _
      obtain ⟨W4, hst, bG, fG, kG⟩ := stR_whole (P := Try.prog) (base := wo.heap.size) (Blk.new wo 130 #[.int .i64 0, .int .u64 0, .int .u64 0, .int .i64 0, .int .u64 0]) (Nat.le_refl _) (size_gr (⟨(k : Int) + 1, rq, n, am, 0⟩ : Grt)) rfl (grA_all (⟨(k : Int) + 1, rq, n, am, 0⟩ : Grt))
      have hB4 : Below wo.heap.size wo W4 := (hB1.mono (Nat.le_refl _)).trans kG.below
      have hL4 := hL.call hB4
      obtain ⟨q, -⟩ := hL4.blk.rules
      obtain ⟨q1, -⟩ := bE.rules
      have lg := hL4.blk.lt
      have lE := bE.lt
      have lb : base ≤ wo.heap.size := hL.lt
      have Y4 := Lib.hid (And.intro (hbw.trans (hB4.mono lb)) (And.intro hL4 (bE.call hB4)))
      have Hids := Lib.hid hids
      have HGN := Lib.hid (fun b (h : (Value.slice Ag gs.length cg).ownBlock = some b) => (hL.rg.ge b h).2)
      have HBG := Lib.hid bG
      clear hB1 hB4 hL4 hL hids bG fG kG bE hbw hrow
      go_upto_region 16 with fail
      generalize wo.heap.size = gn at HGN HBG ⊢
      clear hst q q1 lg lE
      -- the append
      have hL4 := Y4.out.2.1
      have hgl : gs.length ≤ 901 := by have := HO.out.gl; omega
      have hB1 : Below W4.heap.size W4 (W4.alloc (.cells (grA (⟨(k : Int) + 1, rq, n, am, 0⟩ : Grt)) 130)).drew := ((Below.refl _ _).alloc (Nat.le_refl _) _).drew
      obtain ⟨vg', W6, happ, rowG, hk6, hgr, hfr⟩ := RowG.app (base := base) (cap := 1) 39 (hL4.rg.call hB1) (rd_one grA_size (Blk.new W4 130 (grA (⟨(k : Int) + 1, rq, n, am, 0⟩ : Grt))).drew) (by simp; omega) (Nat.le_trans hL4.lt hB1.size)
      obtain ⟨g2, cap2, rfl, e1, e2, e3, e4⟩ := rowG.sl_pos (by simp)
      have e5 : (gs ++ [(⟨(k : Int) + 1, rq, n, am, 0⟩ : Grt)]).length = gs.length + 1 := by simp
      rw [e5] at happ rowG e1
      simp only [List.length_singleton] at happ
      unfold maxLen at e2
      have hne2 : gn ≠ g2 := by
        have h1 : gn < W4.heap.size := HBG.out.lt
        rcases hfr with hfr | hfr
        · have := HGN.out g2 (by rw [← hfr]; rfl)
          omega
        · have := hfr g2 rfl
          simp at this
          omega
      have hb6 := hk6.blk _ _ _ (hL4.blk.call hB1) (by decide)
      have bn6 : Blk W6 gn 130 (grA (⟨(k : Int) + 1, rq, n, am, 0⟩ : Grt)) := by
        have h1 := HBG.out.call hB1
        have h2 := h1.lt
        unfold Blk at h1 ⊢
        rw [hgr.block gn h2 ?_]
        · exact h1
        · intro e
          have := HGN.out gn e.symm
          omega
      have hb7 := hb6.set_ 19 (.slice (some ⟨g2, 0, none⟩) (gs.length + 1) cap2)
      rw [ledA_set_g] at hb7
      have K7 : Kt base [46, 130] W4 (W6.setCell ⟨g, 19, none⟩ (.slice (some ⟨g2, 0, none⟩) (gs.length + 1) cap2)) := ((Kt.of_below hB1 hL4.lt).trans (hk6.more (by simp))).trans (Kt.setCell hb6 (by simp) hL4.ge _ _)
      have r7 : RowG (W6.setCell ⟨g, 19, none⟩ (.slice (some ⟨g2, 0, none⟩) (gs.length + 1) cap2)) base (.slice (some ⟨g2, 0, none⟩) (gs.length + 1) cap2) (gap gs gs.length (⟨(k : Int) + 1, rq, n, am, 0⟩ : Grt)) := by
        rw [gap_end]
        exact (Kt.setCell (ts := [46]) hb6 (by simp) hL4.ge _ _).row rowG (by decide)
      have hgne : g ≠ gn := fun e => by
        subst e
        have := (hb6.type_eq bn6).1
        revert this
        decide
      have n7 : Blk (W6.setCell ⟨g, 19, none⟩ (.slice (some ⟨g2, 0, none⟩) (gs.length + 1) cap2)) gn 130 (grA (⟨(k : Int) + 1, rq, n, am, 0⟩ : Grt)) := bn6.far (p := ⟨g, 19, none⟩) (fun e => hgne e.symm) (.slice (some ⟨g2, 0, none⟩) (gs.length + 1) cap2)
      have hgg2 : g ≠ g2 := fun e => by
        subst e
        obtain ⟨cur, hcur, _⟩ := rowG.blk
        have := (hb6.type_eq hcur).1
        revert this
        decide
      obtain ⟨q5, -⟩ := hL4.blk.rules
      obtain ⟨q6, f6⟩ := hb6.rules
      have lg5 := hL4.blk.lt
      have lg6 := hb6.lt
      have ln5 := HBG.out.lt
      have hld := run_ldR (P := Try.prog) HBG.out.drew.rng Try.underlying130 rfl (size_gr (⟨(k : Int) + 1, rq, n, am, 0⟩ : Grt))
      have Y := Lib.hid (And.intro hb7 (And.intro n7 (And.intro K7 r7)))
      have HNE := Lib.hid (And.intro hgg2 hne2)
      clear hL4 rowG hk6 hgr hfr hb6 bn6 hb7 n7 K7 r7 hB1 HBG HGN e1 e3 e4 e5 hne2 hgne hgg2
      go_region
      generalize W6.setCell _ _ = W7 at Y ⊢
      clear q5 q6 f6 lg5 lg6 ln5 hld happ
      go_wp2_with fail
      clear hlt hd hi
      go_loopw [11] (fun s11 wr => ∃ (j : Nat) (z : Grt), j ≤ gs.length ∧ s11 = .int .i64 j ∧ Blk wr g 46 (ledA inn kn (.slice An ns.length cn) (.slice (some ⟨g2, 0, none⟩) (gs.length + 1) cap2) gt vr) ∧ Blk wr gn 130 (grA (⟨(k : Int) + 1, rq, n, am, 0⟩ : Grt)) ∧ Kt base [46, 130] W4 wr ∧ RowG wr base (.slice (some ⟨g2, 0, none⟩) (gs.length + 1) cap2) (gap gs j z)) (fun s11 _ => (intOf s11).toNat)
      case atStart => exact ⟨gs.length, (⟨(k : Int) + 1, rq, n, am, 0⟩ : Grt), Nat.le_refl _, rfl, Y.out.1, Y.out.2.1, Y.out.2.2.1, Y.out.2.2.2⟩
      case round =>
        obtain ⟨j, z, hj, rfl, hb, hbG, hK, hR⟩ := hrel
        clear Y
        obtain ⟨wo, rfl⟩ : ∃ wo : World, wo = wr := ⟨_, rfl⟩
        obtain ⟨q, f⟩ := hb.rules
        obtain ⟨qg, -⟩ := hbG.rules
        have lg := hb.lt
        have ln := hbG.lt
        have CLR := True.intro
        by_cases hj0 : 0 < j
        · obtain ⟨x, hx⟩ : ∃ x, gs[j - 1]? = some x := ⟨gs[j - 1], List.getElem?_eq_getElem (by omega)⟩
          have hx2 : (gap gs j z)[j - 1]? = some x := by rw [gap_lo hj (by omega)]; exact hx
          have hc0 : wo.cell? ⟨g2, (j - 1) * 5, none⟩ = some (.int .i64 x.o) := hR.rng grA_size hx2 0 _ rfl
          have hc1 : wo.cell? ⟨g2, (j - 1) * 5 + 1, none⟩ = some (.int .u64 x.r) := hR.rng grA_size hx2 1 _ rfl
          have i0 : (0 : Int) ≤ (j : Int) - 1 := by omega
          obtain ⟨c1, d1⟩ : ∃ b, decide ((k : Int) + 1 < x.o) = b := ⟨_, rfl⟩
          obtain ⟨c2, d2⟩ : ∃ b, (x.o == (k : Int) + 1) = b := ⟨_, rfl⟩
          obtain ⟨c3, d3⟩ : ∃ b, decide (rq < x.r) = b := ⟨_, rfl⟩
          have dk : decide ((0 : Int) < (j : Int)) = true := by simp; omega
          have HX := Lib.hid (And.intro hx hx2)
          clear hx hx2
          rcases (show (c1 = true ∨ (c1 = false ∧ c2 = true ∧ c3 = true)) ∨ (c1 = false ∧ c2 = false) ∨ (c1 = false ∧ c2 = true ∧ c3 = false) from by cases c1 <;> cases c2 <;> cases c3 <;> simp) with (rfl | ⟨rfl, rfl, rfl⟩) | ⟨rfl, rfl⟩ | ⟨rfl, rfl, rfl⟩
          rotate_left
          rotate_left
          all_goals skip
          case inr.inl =>
            clear d3
            have o1 : IntKind.i64.wrap ((j : Int) - 1) = (j : Int) - 1 := IntWalk.i64_in _ (by omega)
            have o2 : ((j : Int) - 1).toNat = j - 1 := by omega
            go_upto_region 17 with fail
            go_quiet (fail)
            clear o1 o2
            have hbd := hb.call (below_drewN (Below.refl _ _) nq)
            have hGd := hbG.call (below_drewN (Below.refl _ _) nq)
            have hKd := hK.trans (Kt.drewN (base := base) (ts := [46, 130]) nq)
            have hRd := hR.call (below_drewN (Below.refl _ _) nq)
            generalize wo.drewN nq = W6 at hbd hGd hKd hRd ⊢
            clear q f qg hb hbG hK hR lg ln CLR
            obtain ⟨w7, hst, hR7, hK7, hF7⟩ := (hRd.call (Below.refl _ _).drew).putF (P := Try.prog) grA_size (i := j) (by rw [gap_length hj]; omega) (gap_get hj) 130 0 (grA (⟨(k : Int) + 1, rq, n, am, 0⟩ : Grt)) (size_gr _) (by simp [grA_size]) (grA_all _) (y := (⟨(k : Int) + 1, rq, n, am, 0⟩ : Grt)) (by simp [grA_size, List.drop_of_length_le]) (ts := [46, 130]) (by simp)
            rw [Nat.add_zero] at hst
            rw [gap_set hj] at hR7
            have hld := run_ldR (P := Try.prog) hGd.drew.rng Try.underlying130 rfl (size_gr (⟨(k : Int) + 1, rq, n, am, 0⟩ : Grt))
            obtain ⟨q, -⟩ := hbd.rules
            have lg := hbd.lt
            have K7 := hKd.trans (Kt.drew.trans hK7)
            have hL7 := Y4.out.2.1.grants K7 (hF7.blk hbd.drew HNE.out.1 (by simp)) hR7
            have bE7 := K7.blk _ _ _ Y4.out.2.2 (by decide)
            have hbw7 := Y4.out.1.trans K7.below
            clear hR7 hK7 hF7 hRd hbd hGd hKd K7
            have hB8 : Below w7.heap.size w7 (w7.alloc (.cells (u64A rq) 28)).drew := ((Below.refl _ _).alloc (Nat.le_refl _) _).drew
            obtain ⟨v', w8, happ, rowU, hk8, hgr8, hfr8⟩ := RowU.app (base := base) (cap := 1) 43 ((hL7.rr k hk).call hB8) (rd_one u64A_size (Blk.new w7 28 (u64A rq)).drew) (by have := HO.out.rl k hk; simp; omega) (Nat.le_trans hL7.lt hB8.size)
            obtain ⟨Au, cu, hvu, -, -⟩ := rowU.sl
            rw [List.length_append, List.length_singleton] at hvu
            subst hvu
            have hb8 := hk8.blk _ _ _ (hL7.blk.call hB8) (by decide)
            have hL9 := hL7.req hk hB8 rowU hk8 hgr8 hfr8
            have c7 := ledA_r inn kn (.slice An ns.length cn) (.slice (some ⟨g2, 0, none⟩) (gs.length + 1) cap2) gt vr k hk
            obtain ⟨q7, -⟩ := hL7.blk.rules
            obtain ⟨qe7, -⟩ := bE7.rules
            obtain ⟨q8, f8⟩ := hb8.rules
            have lg7 := hL7.blk.lt
            have le7 := bE7.lt
            have lg8 := hb8.lt
            have FIN := Lib.hid (And.intro ((hbw7.trans (hB8.mono hL7.lt)).trans (hk8.below.trans (Kt.setCell (base := base) (ts := [46]) hb8 (by simp) hL7.ge (21 + k) (.slice Au ((rs k).length + 1) cu)).below)) hL9)
            simp only [List.length_singleton, u64A] at happ
            obtain ⟨qe8, -⟩ := (hk8.blk _ _ _ (bE7.call hB8) (by decide)).rules
            have le8 := (hk8.blk _ _ _ (bE7.call hB8) (by decide)).lt
            clear hL7 rowU hk8 hgr8 hfr8 hb8 hL9 bE7 hbw7 hB8
            go_upto_region 20 with fail
            go_region
            clear q lg hst hld
            go_upto_region 21 with fail
            go_region
            clear q7 qe7 q8 f8 lg7 le7 lg8 happ c7 qe8 le8
            go_wp2_with fail
            go_ret
            exact ⟨0, rfl, FIN.out.1, fun _ => ⟨_, _, _, _, _, _, _, _, _, _, FIN.out.2, (HO.out.same Hids.out).req (by rw [gap_length hj]; omega)⟩⟩
          case inr.inr =>
            have o1 : IntKind.i64.wrap ((j : Int) - 1) = (j : Int) - 1 := IntWalk.i64_in _ (by omega)
            have o2 : ((j : Int) - 1).toNat = j - 1 := by omega
            go_upto_region 17 with fail
            go_quiet (fail)
            clear o1 o2
            have hbd := hb.call (below_drewN (Below.refl _ _) nq)
            have hGd := hbG.call (below_drewN (Below.refl _ _) nq)
            have hKd := hK.trans (Kt.drewN (base := base) (ts := [46, 130]) nq)
            have hRd := hR.call (below_drewN (Below.refl _ _) nq)
            generalize wo.drewN nq = W6 at hbd hGd hKd hRd ⊢
            clear q f qg hb hbG hK hR lg ln CLR
            obtain ⟨w7, hst, hR7, hK7, hF7⟩ := (hRd.call (Below.refl _ _).drew).putF (P := Try.prog) grA_size (i := j) (by rw [gap_length hj]; omega) (gap_get hj) 130 0 (grA (⟨(k : Int) + 1, rq, n, am, 0⟩ : Grt)) (size_gr _) (by simp [grA_size]) (grA_all _) (y := (⟨(k : Int) + 1, rq, n, am, 0⟩ : Grt)) (by simp [grA_size, List.drop_of_length_le]) (ts := [46, 130]) (by simp)
            rw [Nat.add_zero] at hst
            rw [gap_set hj] at hR7
            have hld := run_ldR (P := Try.prog) hGd.drew.rng Try.underlying130 rfl (size_gr (⟨(k : Int) + 1, rq, n, am, 0⟩ : Grt))
            obtain ⟨q, -⟩ := hbd.rules
            have lg := hbd.lt
            have K7 := hKd.trans (Kt.drew.trans hK7)
            have hL7 := Y4.out.2.1.grants K7 (hF7.blk hbd.drew HNE.out.1 (by simp)) hR7
            have bE7 := K7.blk _ _ _ Y4.out.2.2 (by decide)
            have hbw7 := Y4.out.1.trans K7.below
            clear hR7 hK7 hF7 hRd hbd hGd hKd K7
            have hB8 : Below w7.heap.size w7 (w7.alloc (.cells (u64A rq) 28)).drew := ((Below.refl _ _).alloc (Nat.le_refl _) _).drew
            obtain ⟨v', w8, happ, rowU, hk8, hgr8, hfr8⟩ := RowU.app (base := base) (cap := 1) 43 ((hL7.rr k hk).call hB8) (rd_one u64A_size (Blk.new w7 28 (u64A rq)).drew) (by have := HO.out.rl k hk; simp; omega) (Nat.le_trans hL7.lt hB8.size)
            obtain ⟨Au, cu, hvu, -, -⟩ := rowU.sl
            rw [List.length_append, List.length_singleton] at hvu
            subst hvu
            have hb8 := hk8.blk _ _ _ (hL7.blk.call hB8) (by decide)
            have hL9 := hL7.req hk hB8 rowU hk8 hgr8 hfr8
            have c7 := ledA_r inn kn (.slice An ns.length cn) (.slice (some ⟨g2, 0, none⟩) (gs.length + 1) cap2) gt vr k hk
            obtain ⟨q7, -⟩ := hL7.blk.rules
            obtain ⟨qe7, -⟩ := bE7.rules
            obtain ⟨q8, f8⟩ := hb8.rules
            have lg7 := hL7.blk.lt
            have le7 := bE7.lt
            have lg8 := hb8.lt
            have FIN := Lib.hid (And.intro ((hbw7.trans (hB8.mono hL7.lt)).trans (hk8.below.trans (Kt.setCell (base := base) (ts := [46]) hb8 (by simp) hL7.ge (21 + k) (.slice Au ((rs k).length + 1) cu)).below)) hL9)
            simp only [List.length_singleton, u64A] at happ
            obtain ⟨qe8, -⟩ := (hk8.blk _ _ _ (bE7.call hB8) (by decide)).rules
            have le8 := (hk8.blk _ _ _ (bE7.call hB8) (by decide)).lt
            clear hL7 rowU hk8 hgr8 hfr8 hb8 hL9 bE7 hbw7 hB8
            go_upto_region 20 with fail
            go_region
            clear q lg hst hld
            go_upto_region 21 with fail
            go_region
            clear q7 qe7 q8 f8 lg7 le7 lg8 happ c7 qe8 le8
            go_wp2_with fail
            go_ret
            exact ⟨0, rfl, FIN.out.1, fun _ => ⟨_, _, _, _, _, _, _, _, _, _, FIN.out.2, (HO.out.same Hids.out).req (by rw [gap_length hj]; omega)⟩⟩
          all_goals
            have o1 : IntKind.i64.wrap ((j : Int) - 1) = (j : Int) - 1 := IntWalk.i64_in _ (by omega)
            have o2 : ((j : Int) - 1).toNat = j - 1 := by omega
            go_upto_region 17 with fail
            go_quiet (fail)
            clear o1 o2
            have hbd := hb.call (below_drewN (Below.refl _ _) nq)
            have hGd := hbG.call (below_drewN (Below.refl _ _) nq)
            have hKd := hK.trans (Kt.drewN (base := base) (ts := [46, 130]) nq)
            have hRd := (hR.call (below_drewN (Below.refl _ _) nq)).call (Below.refl _ _).drew
            generalize wo.drewN nq = W6 at hbd hGd hKd hRd ⊢
            clear q f qg hb hbG hK hR lg ln hc0 hc1 d1 d2 d3
            obtain ⟨w7, hst, hR7, hK7, hF7⟩ := hRd.putF (P := Try.prog) grA_size (i := j) (by rw [gap_length hj]; omega) (gap_get hj) 130 0 (grA x) (size_gr _) (by simp [grA_size]) (grA_all _) (y := x) (by simp [grA_size, List.drop_of_length_le]) (ts := [46, 130]) (by simp)
            have hld := run_ldR (P := Try.prog) (hRd.rng grA_size HX.out.2) Try.underlying130 rfl (size_gr x)
            rw [Nat.add_zero] at hst
            obtain ⟨q, -⟩ := hbd.rules
            have lg := hbd.lt
            have HN := Lib.hid (And.intro (hF7.blk hbd.drew HNE.out.1 (by simp)) (And.intro (hF7.blk hGd.drew HNE.out.2 (by simp)) (And.intro (hKd.trans (Kt.drew.trans hK7)) hR7)))
            clear hbd hGd hKd hRd hR7 hK7 hF7
            go_upto_region 18 with fail
            go_region
            clear q hst hld lg
            go_wp2_with fail
            go_roundw
            case rel =>
              obtain ⟨n1, n2, n3, n4⟩ := HN.out
              rw [gap_set hj] at n4
              have e := gap_down (t := gs) (k := j - 1) HX.out.1
              rw [show j - 1 + 1 = j from by omega] at e
              rw [e] at n4
              exact ⟨j - 1, x, by omega, congrArg (Value.int .i64) (by omega), n1, n2, n3, n4⟩
            case measure => simp [intOf]; omega
        · have dk : decide ((0 : Int) < (j : Int)) = false := by simp; omega
          go_upto_region 17 with fail
          go_quiet (fail)
          have hbd := hb.call (below_drewN (Below.refl _ _) nq)
          have hGd := hbG.call (below_drewN (Below.refl _ _) nq)
          have hKd := hK.trans (Kt.drewN (base := base) (ts := [46, 130]) nq)
          have hRd := hR.call (below_drewN (Below.refl _ _) nq)
          generalize wo.drewN nq = W6 at hbd hGd hKd hRd ⊢
          clear q f qg hb hbG hK hR lg ln CLR
          obtain ⟨w7, hst, hR7, hK7, hF7⟩ := (hRd.call (Below.refl _ _).drew).putF (P := Try.prog) grA_size (i := j) (by rw [gap_length hj]; omega) (gap_get hj) 130 0 (grA (⟨(k : Int) + 1, rq, n, am, 0⟩ : Grt)) (size_gr _) (by simp [grA_size]) (grA_all _) (y := (⟨(k : Int) + 1, rq, n, am, 0⟩ : Grt)) (by simp [grA_size, List.drop_of_length_le]) (ts := [46, 130]) (by simp)
          rw [Nat.add_zero] at hst
          rw [gap_set hj] at hR7
          have hld := run_ldR (P := Try.prog) hGd.drew.rng Try.underlying130 rfl (size_gr (⟨(k : Int) + 1, rq, n, am, 0⟩ : Grt))
          obtain ⟨q, -⟩ := hbd.rules
          have lg := hbd.lt
          have K7 := hKd.trans (Kt.drew.trans hK7)
          have hL7 := Y4.out.2.1.grants K7 (hF7.blk hbd.drew HNE.out.1 (by simp)) hR7
          have bE7 := K7.blk _ _ _ Y4.out.2.2 (by decide)
          have hbw7 := Y4.out.1.trans K7.below
          clear hR7 hK7 hF7 hRd hbd hGd hKd K7
          have hB8 : Below w7.heap.size w7 (w7.alloc (.cells (u64A rq) 28)).drew := ((Below.refl _ _).alloc (Nat.le_refl _) _).drew
          obtain ⟨v', w8, happ, rowU, hk8, hgr8, hfr8⟩ := RowU.app (base := base) (cap := 1) 43 ((hL7.rr k hk).call hB8) (rd_one u64A_size (Blk.new w7 28 (u64A rq)).drew) (by have := HO.out.rl k hk; simp; omega) (Nat.le_trans hL7.lt hB8.size)
          obtain ⟨Au, cu, hvu, -, -⟩ := rowU.sl
          rw [List.length_append, List.length_singleton] at hvu
          subst hvu
          have hb8 := hk8.blk _ _ _ (hL7.blk.call hB8) (by decide)
          have hL9 := hL7.req hk hB8 rowU hk8 hgr8 hfr8
          have c7 := ledA_r inn kn (.slice An ns.length cn) (.slice (some ⟨g2, 0, none⟩) (gs.length + 1) cap2) gt vr k hk
          obtain ⟨q7, -⟩ := hL7.blk.rules
          obtain ⟨qe7, -⟩ := bE7.rules
          obtain ⟨q8, f8⟩ := hb8.rules
          have lg7 := hL7.blk.lt
          have le7 := bE7.lt
          have lg8 := hb8.lt
          have FIN := Lib.hid (And.intro ((hbw7.trans (hB8.mono hL7.lt)).trans (hk8.below.trans (Kt.setCell (base := base) (ts := [46]) hb8 (by simp) hL7.ge (21 + k) (.slice Au ((rs k).length + 1) cu)).below)) hL9)
          simp only [List.length_singleton, u64A] at happ
          obtain ⟨qe8, -⟩ := (hk8.blk _ _ _ (bE7.call hB8) (by decide)).rules
          have le8 := (hk8.blk _ _ _ (bE7.call hB8) (by decide)).lt
          clear hL7 rowU hk8 hgr8 hfr8 hb8 hL9 bE7 hbw7 hB8
          go_upto_region 20 with fail
          go_region
          clear q lg hst hld
          go_upto_region 21 with fail
          go_region
          clear q7 qe7 q8 f8 lg7 le7 lg8 happ c7 qe8 le8
          go_wp2_with fail
          go_ret
          exact ⟨0, rfl, FIN.out.1, fun _ => ⟨_, _, _, _, _, _, _, _, _, _, FIN.out.2, (HO.out.same Hids.out).req (by rw [gap_length hj]; omega)⟩⟩
end
end Go.Proofs.Ytgbbhkdaalnchaa
