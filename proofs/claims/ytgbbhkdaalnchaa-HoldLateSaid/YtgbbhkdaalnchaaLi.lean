/-
  The walks of the document's packages leatref09 (Id) and leatref11 (makes).
-/
import Derived.Test.YtgbbhkdaalnchaaLh
import Derived.Test.YtgbbhkdaalnchaaGR
import Derived.BigRegion
namespace Go.Proofs.Ytgbbhkdaalnchaa
set_option linter.unusedVariables false
set_option linter.unusedSimpArgs false
open Go.RowKit Go Go.BigFrame
set_option maxRecDepth 100000

theorem u64_range (z : Int) : 0 ≤ IntKind.u64.wrap z ∧ IntKind.u64.wrap z ≤ 18446744073709551615 := by
  unfold IntKind.wrap
  simp [IntKind.signed, IntKind.bits]
  omega
def SomeU64 (w : World) (e : Ending) (w' : World) : Prop := (∃ n : Int, e = .returned (.int .u64 n) ∧ 0 ≤ n ∧ n ≤ 18446744073709551615) ∧ w = w'
theorem lid (o s : Int) (ho : 1 ≤ o ∧ o ≤ 6) (hs : 0 ≤ s ∧ s ≤ 18446744073709551615) (w : World) : Calls Try.prog 79 #[.int .i64 o, .int .u64 s] w (SomeU64 w) := by
  obtain ⟨h1, h2⟩ := ho
  obtain ⟨h3, h4⟩ := hs
  obtain ⟨b1, d1⟩ : ∃ b, decide (s < 1) = b := ⟨_, rfl⟩
  obtain ⟨b2, d2⟩ : ∃ b, decide (1099511627776 ≤ s) = b := ⟨_, rfl⟩
  have e1 : decide (o < 1) = false := by simp; omega
  have e2 : decide (6 < o) = false := by simp; omega
  rcases (show b1 = true ∨ b1 = false from by cases b1 <;> simp) with rfl | rfl
  · go_enter Try.func79, Try.ntmps79
    go_wp2_with fail
    go_ret
    exact ⟨⟨0, rfl, by omega, by omega⟩, rfl⟩
  rcases (show b2 = true ∨ b2 = false from by cases b2 <;> simp) with rfl | rfl
  · go_enter Try.func79, Try.ntmps79
    go_wp2_with fail
    go_ret
    exact ⟨⟨0, rfl, by omega, by omega⟩, rfl⟩
  · go_enter Try.func79, Try.ntmps79
    go_wp2_with fail
    go_ret
    exact ⟨⟨_, rfl, u64_range _⟩, rfl⟩
/-- What a ledger is like: its nodes are the tree's; how many grants and requests there are at most. -/
structure LOk (ns : List Nd) (gs : List Grt) (t : List Tn) (rs : Nat → List Int) (cnt : Nat) : Prop where
  tok : TreeOk t
  len : ns.length = t.length
  l32 : t.length ≤ 32
  ids : ∀ x ∈ t, ∃ y ∈ ns, y.id = x.id
  gl : gs.length ≤ cnt
  rl : ∀ k, k < 6 → (rs k).length ≤ cnt
  rng : ∀ y ∈ ns, 0 ≤ y.id ∧ y.id ≤ 18446744073709551615
/-- A ledger. -/
def LedAt (w : World) (base g : Nat) (kn : Vec) (cnt : Nat) : Prop := ∃ inn vn vg gt vl vr ns gs t rs, Led w base g inn kn vn vg gt vl vr ns gs t rs ∧ LOk ns gs t rs cnt
/-- What a turn of a ledger of the call's own leaves. -/
def DoesPost (base g : Nat) (kn : Vec) (cnt : Nat) (w : World) (e : Ending) (w' : World) : Prop := ∃ n : Int, e = .returned (.int .i64 n) ∧ Below base w w' ∧ (n = 0 → LedAt w' base g kn cnt)
theorem DoesPost.no {base g cnt : Nat} {kn : Vec} {w w' : World} {n : Int} (hn : n ≠ 0) (hb : Below base w w') : DoesPost base g kn cnt w (.returned (.int .i64 n)) w' := ⟨n, rfl, hb, fun h => absurd h hn⟩
section
variable {w w' : World} {base g : Nat} {inn : Nat → Bool} {kn : Vec} {vn vg : Value} {gt : Nat} {vl : Value} {vr : Nat → Value} {ns : List Nd} {gs : List Grt} {t : List Tn} {rs : Nat → List Int} {cnt : Nat}
theorem Led.lt (h : Led w base g inn kn vn vg gt vl vr ns gs t rs) : base ≤ w.heap.size := by have := h.ge; have := h.blk.lt; omega
/-- The tree has turned. -/
theorem Led.tree {vl' : Value} {t' : List Tn} (h : Led w base g inn kn vn vg gt vl vr ns gs t rs) (K : Kt base [106, 136] w w') (T : Tre w' base gt vl' t') : Led w' base g inn kn vn vg gt vl' vr ns gs t' rs :=
  ⟨K.blk _ _ _ h.blk (by decide), h.ge, T, K.row h.rn (by decide), K.row h.rg (by decide), fun k hk => K.row (h.rr k hk) (by decide), h.apart⟩
/-- The nodes have turned. -/
theorem Led.nodes {vn' : Value} {ns' : List Nd} (h : Led w base g inn kn vn vg gt vl vr ns gs t rs) (K : Kt base [46, 112] w w') (b : Blk w' g 46 (ledA inn kn vn' vg gt vr)) (r : RowN w' base vn' ns') : Led w' base g inn kn vn' vg gt vl vr ns' gs t rs :=
  ⟨b, h.ge, ⟨K.blk _ _ _ h.tre.blk (by decide), K.row h.tre.row (by decide), h.tre.ge⟩, r, K.row h.rg (by decide), fun k hk => K.row (h.rr k hk) (by decide), h.apart⟩
/-- The grants have turned. -/
theorem Led.grants {vg' : Value} {gs' : List Grt} (h : Led w base g inn kn vn vg gt vl vr ns gs t rs) (K : Kt base [46, 130] w w') (b : Blk w' g 46 (ledA inn kn vn vg' gt vr)) (r : RowG w' base vg' gs') : Led w' base g inn kn vn vg' gt vl vr ns gs' t rs :=
  ⟨b, h.ge, ⟨K.blk _ _ _ h.tre.blk (by decide), K.row h.tre.row (by decide), h.tre.ge⟩, K.row h.rn (by decide), r, fun k hk => K.row (h.rr k hk) (by decide), h.apart⟩
theorem LOk.add {id p : Int} {t' : List Tn} {y : Nd} {ns' : List Nd} (h : LOk ns gs t rs cnt) (hp : t'.Perm (⟨id, p⟩ :: t)) (h0 : id ≠ 0) (hno : ∀ x ∈ t, x.id ≠ id) (hpar : p = 0 ∨ ∃ x ∈ t, x.id = p) (hl : t.length < 32) (hn : ns'.Perm (y :: ns)) (hy : y.id = id) (hr : 0 ≤ id ∧ id ≤ 18446744073709551615) : LOk ns' gs t' rs cnt := by
  have hlen : t'.length = t.length + 1 := by simpa using hp.length_eq
  have hlen2 : ns'.length = ns.length + 1 := by simpa using hn.length_eq
  refine ⟨?_, by have := h.len; omega, by omega, fun x hx => ?_, h.gl, h.rl, fun z hz => ?_⟩
  · obtain ⟨rk, r0, r1, r2⟩ := h.tok
    refine ⟨fun i => if i = id then t.length else rk i, fun x hx => ?_, fun x hx => ?_, fun x hx hxp => ?_⟩
    · rcases List.mem_cons.1 (hp.mem_iff.1 hx) with rfl | hx
      · exact h0
      · exact r0 x hx
    · rcases List.mem_cons.1 (hp.mem_iff.1 hx) with rfl | hx
      · simp; omega
      · have := r1 x hx; simp only [if_neg (hno x hx)]; omega
    · rcases List.mem_cons.1 (hp.mem_iff.1 hx) with rfl | hx
      · rcases hpar with hz | ⟨y, hy, hyp⟩
        · exact absurd hz hxp
        · refine ⟨y, hp.mem_iff.2 (List.mem_cons_of_mem _ hy), hyp, ?_⟩
          have h2 := r1 y hy
          show (if y.id = id then t.length else rk y.id) < (if id = id then t.length else rk id)
          rw [if_neg (hno y hy), if_pos rfl]
          exact h2
      · obtain ⟨y, hy, hyp, hlt⟩ := r2 x hx hxp
        exact ⟨y, hp.mem_iff.2 (List.mem_cons_of_mem _ hy), hyp, by simp only [if_neg (hno x hx), if_neg (hno y hy)]; exact hlt⟩
  · rcases List.mem_cons.1 (hp.mem_iff.1 hx) with rfl | hx
    · exact ⟨y, hn.mem_iff.2 (by simp), hy⟩
    · obtain ⟨z, hz, e⟩ := h.ids x hx
      exact ⟨z, hn.mem_iff.2 (List.mem_cons_of_mem _ hz), e⟩
  · rcases List.mem_cons.1 (hn.mem_iff.1 hz) with rfl | hz
    · rw [hy]; exact hr
    · exact h.rng z hz
set_option maxHeartbeats 4000000 in
theorem lmakes (h : Led w base g inn kn vn vg gt vl vr ns gs t rs) (ok : LOk ns gs t rs cnt) (e : Ev) (ho : e.ok) (k : Nat) (hk : k < 6) (hek : e.o = (k : Int) + 1) (hc : cnt ≤ 900) :
    Calls Try.prog 70 #[.pointer (some ⟨g, 0, none⟩), .agg (evA e)] w (DoesPost base g kn cnt w) := by
  obtain ⟨A, cap, rfl, hcap, hmax⟩ := h.rn.sl
  unfold maxLen at hmax
  obtain ⟨o, s, d, kd, n, tt, am, rq, f⟩ := e
  obtain rfl : o = (k : Int) + 1 := hek
  have T0 : Trk w _ [(w.heap.size, 32, evA (⟨(k : Int) + 1, s, d, kd, n, tt, am, rq, f⟩ : Ev))] := (Trk.nil w).push (t := 32) (cs := evA (⟨(k : Int) + 1, s, d, kd, n, tt, am, rq, f⟩ : Ev)) rfl
  have HH := Lib.hid h
  have HO := Lib.hid ok
  have HT := Lib.hid T0
  have C1 := Lib.hid (lid ((k : Int) + 1) s (by omega) ho.s)
  obtain ⟨b3, h3⟩ : ∃ b, decide (140737488355328 < am) = b := ⟨_, rfl⟩
  have hns : ns.length ≤ 32 := by have := ok.len; have := ok.l32; omega
  have hbs := h.lt
  have k0 : (0 : Int) ≤ (k : Int) := by omega
  have k6 : (k : Int) < 6 := by omega
  clear h ok T0 ho
  go_enter Try.func70, Try.ntmps70
  go_wp2_with fail
  generalize w.alloc _ = W at HT ⊢
  go_loopw [5, 6] (fun s5 i wr => ∃ (m : Nat) (j : Nat), j ≤ ns.length ∧ i = .int .i64 j ∧ m ≤ j ∧ s5 = .int .i64 m ∧ Trk w wr [(w.heap.size, 32, evA (⟨(k : Int) + 1, s, d, kd, n, tt, am, rq, f⟩ : Ev))]) (fun _ i _ => ns.length - (intOf i).toNat)
  case atStart => exact ⟨0, 0, by omega, rfl, by omega, rfl, HT.out⟩
  case round =>
    obtain ⟨m, j, hj, rfl, hmj, rfl, T⟩ := hrel
    clear HT
    obtain ⟨wo, rfl⟩ : ∃ wo : World, wo = wr := ⟨_, rfl⟩
    have hL := HH.out.call T.below
    obtain ⟨q, -⟩ := hL.blk.rules
    obtain ⟨q1, -, -⟩ := T.rules
    have lg := hL.blk.lt
    have lt := T.lt
    by_cases hlt : j < ns.length
    · obtain ⟨x, hx⟩ : ∃ x, ns[j]? = some x := ⟨ns[j], List.getElem?_eq_getElem hlt⟩
      obtain ⟨g2, cap2, e0, h1, h2, h4, h5⟩ := hL.rn.sl_pos (by omega)
      injection e0 with e1 e2 e3
      subst e1; subst e3
      have hr : wo.cell? ⟨g2, j * 56, none⟩ = some (.int .u64 x.id) := hL.rn.rng ndA_size hx 0 _ (ndA_0 x)
      have hd : decide (j < ns.length) = true := decide_eq_true hlt
      have HTT := Lib.hid T
      clear hL hx h1 h2 e2 T
      go_upto_region 5 with fail
      go_quiet (fail)
      clear q q1 hr
      go_wp2_with fail
      all_goals
        go_roundw
      case rel => exact ⟨m + 1, j + 1, by omega, by go_num, by omega, by go_num, HTT.out.drewN _⟩
      case measure => simp [intOf]; omega
      case rel => exact ⟨m, j + 1, by omega, by go_num, by omega, rfl, HTT.out.drewN _⟩
      case measure => simp [intOf]; omega
    · have hd : decide (j < ns.length) = false := decide_eq_false hlt
      have HTT := Lib.hid T
      have lgt := hL.tre.blk.lt
      clear hL T
      by_cases hm5 : 5 ≤ m
      · have d5 : decide ((5 : Int) ≤ (m : Int)) = true := by simp; omega
        go_wp2_with fail
        go_ret
        exact DoesPost.no (by decide) (HTT.out.below.mono hbs)
      have d5 : decide ((5 : Int) ≤ (m : Int)) = false := by simp; omega
      rcases (show b3 = true ∨ b3 = false from by cases b3 <;> simp) with rfl | rfl
      · go_wp2_with fail
        go_ret
        exact DoesPost.no (by decide) (HTT.out.below.mono hbs)
      go_wp2_with fail
      refine (C1.out _).mono ?_
      rintro r w1 ⟨⟨id, rfl, hir1, hir2⟩, rfl⟩
      have HIR := Lib.hid (And.intro hir1 hir2)
      clear hir1 hir2
      go_upto_region 10 with fail
      refine wp_region_quietTail 7 (by kernel_rfl) (by simp) (by kernel_rfl) (by kernel_rfl) (by kernel_rfl) (by kernel_rfl) ?_
      simp only [List.take_succ_cons, List.take_zero, List.drop_succ_cons, List.drop_zero]
      repeat (go_big_quiet_step (fail))
      refine wpQuiet_nil ?_
      intro _ hw'
      obtain ⟨nq, hw''⟩ := hw'
      subst hw''
      have HT2 := Lib.hid (HTT.out.drewN nq)
      have CA := Lib.hid (radd (HH.out.call HT2.out.below).tre HO.out.tok HO.out.l32 id n)
      generalize wo.drewN nq = W2 at HT2 CA ⊢
      clear HTT q q1 lg lt lgt d5 h3
      go_wp2_with fail
      refine CA.out.mono ?_
      rintro r w2 ⟨n0, rfl, hcase⟩
      clear CA
      rcases hcase with ⟨hn0, hb2⟩ | ⟨rfl, vl', t', hT2, hK2, hp2, hid2, hno2, hpar2, hl2⟩
      · have d0 : (n0 != 0) = true := by simp [hn0]
        clear hn0
        have HN := Lib.hid (And.intro (show n0 ≠ 0 by simpa using d0) ((HT2.out.call hb2).below.mono hbs))
        clear hb2
        go_wp2_with fail
        go_ret
        exact DoesPost.no HN.out.1 HN.out.2
      -- the node
      have hL2 := (HH.out.call HT2.out.below).tree hK2 hT2
      have bE := hK2.blk _ _ _ (HT2.out.blk w.heap.size 32 (evA (⟨(k : Int) + 1, s, d, kd, n, tt, am, rq, f⟩ : Ev)) (by simp)) (by decide)
      have hbw2 : Below base w w2 := (HT2.out.below.mono hbs).trans hK2.below
      have hbs2 : base ≤ w2.heap.size := Nat.le_trans hbs hbw2.size
      obtain ⟨W4, hst, bN, fN, kN⟩ := stR_whole (P := Try.prog) (base := base) (Blk.new w2 112 (ndA Nd.zero)) hbs2 (size_nd ⟨id, n, z0⟩) (by rw [ndA_size, ndA_size]) (ndA_all _)
      have bE4 := fN.blk (bE.alloc (.cells (ndA Nd.zero) 112)) (by have := bE.lt; omega) (by simp)
      have hB4 : Below w2.heap.size w2 W4 := fN.below ((Below.refl _ _).alloc (Nat.le_refl _) _) (Nat.le_refl _) (by simp)
      have bN5 := bN.set_ (2 + k) (.int .i64 am)
      rw [ndA_set _ _ (by omega)] at bN5
      have hB5 : Below w2.heap.size w2 (W4.setCell ⟨w2.heap.size, 2 + k, none⟩ (.int .i64 am)) := hB4.setCell (p := ⟨w2.heap.size, 2 + k, none⟩) (Nat.le_refl _) _
      have hL5 := hL2.call hB5
      obtain ⟨qe2, -⟩ := bE.rules
      obtain ⟨qe4, -⟩ := bE4.rules
      obtain ⟨qn4, fn4⟩ := bN.rules
      obtain ⟨qg4, -⟩ := (hL2.call hB4).blk.rules
      have lg4 := (hL2.call hB4).blk.lt
      have cn4 : (ndA ⟨id, n, z0⟩)[2 + k]? = some (.int .i64 (z0 k)) := ndA_r1 _ _ (by omega)
      have le2 := bE.lt
      have le4 := bE4.lt
      have ln4 := bN.lt
      have HGN := Lib.hid (fun b (h : (Value.slice A ns.length cap).ownBlock = some b) => (hL2.rn.ge b h).2)
      have HL5 := Lib.hid (And.intro hL5 (hbw2.trans (hB5.mono hbs2)))
      have HB5 := Lib.hid bN5
      have HBE := Lib.hid bE
      have HPP := Lib.hid (And.intro hp2 (And.intro hid2 (And.intro hno2 (And.intro hpar2 hl2))))
      clear hp2 hid2 hno2 hpar2 hl2
      clear HT2 hT2 hK2 bE bE4 hB4 hB5 bN fN kN hL2 hL5 bN5 hbw2
      go_upto_region 16 with fail
      generalize W4.setCell _ _ = W5 at HL5 HB5 ⊢
      clear hst qe2 qe4 qn4 fn4 cn4 le2 le4 ln4 HBE qg4 lg4
      generalize w2.heap.size = gn at HGN HB5 ⊢
      -- the append
      have hL5 := HL5.out.1
      have hB1 : Below W5.heap.size W5 (W5.alloc (.cells (ndA (⟨id, n, fset z0 k am⟩ : Nd)) 112)).drew := ((Below.refl _ _).alloc (Nat.le_refl _) _).drew
      obtain ⟨vn', W6, happ, rowN, hk6, hgr, hfr⟩ := RowN.app (base := base) (cap := 1) 38 (hL5.rn.call hB1) (rd_one ndA_size (Blk.new W5 112 (ndA (⟨id, n, fset z0 k am⟩ : Nd))).drew) (by simp; omega) (Nat.le_trans hL5.lt hB1.size)
      obtain ⟨g2, cap2, rfl, e1, e2, e3, e4⟩ := rowN.sl_pos (by simp)
      have e5 : (ns ++ [(⟨id, n, fset z0 k am⟩ : Nd)]).length = ns.length + 1 := by simp
      rw [e5] at happ rowN e1
      simp only [List.length_singleton] at happ
      unfold maxLen at e2
      have hne2 : gn ≠ g2 := by
        have h1 : gn < W5.heap.size := HB5.out.lt
        rcases hfr with hfr | hfr
        · have := HGN.out g2 (by rw [← hfr]; rfl)
          omega
        · have := hfr g2 rfl
          simp at this
          omega
      have hb6 := hk6.blk _ _ _ (hL5.blk.call hB1) (by decide)
      have bn6 : Blk W6 gn 112 (ndA (⟨id, n, fset z0 k am⟩ : Nd)) := by
        have h1 := HB5.out.call hB1
        have h2 := h1.lt
        unfold Blk at h1 ⊢
        rw [hgr.block gn h2 ?_]
        · exact h1
        · intro e
          have := HGN.out gn e.symm
          omega
      have hb7 := hb6.set_ 18 (.slice (some ⟨g2, 0, none⟩) (ns.length + 1) cap2)
      rw [ledA_set_n] at hb7
      have K7 : Kt base [46, 112] W5 (W6.setCell ⟨g, 18, none⟩ (.slice (some ⟨g2, 0, none⟩) (ns.length + 1) cap2)) := ((Kt.of_below hB1 hL5.lt).trans (hk6.more (by simp))).trans (Kt.setCell hb6 (by simp) hL5.ge _ _)
      have r7 : RowN (W6.setCell ⟨g, 18, none⟩ (.slice (some ⟨g2, 0, none⟩) (ns.length + 1) cap2)) base (.slice (some ⟨g2, 0, none⟩) (ns.length + 1) cap2) (gap ns ns.length (⟨id, n, fset z0 k am⟩ : Nd)) := by
        rw [gap_end]
        exact (Kt.setCell (ts := [46]) hb6 (by simp) hL5.ge _ _).row rowN (by decide)
      have hgne : g ≠ gn := fun e => by
        subst e
        have := (hb6.type_eq bn6).1
        revert this
        decide
      have n7 : Blk (W6.setCell ⟨g, 18, none⟩ (.slice (some ⟨g2, 0, none⟩) (ns.length + 1) cap2)) gn 112 (ndA (⟨id, n, fset z0 k am⟩ : Nd)) := bn6.far (p := ⟨g, 18, none⟩) (fun e => hgne e.symm) (.slice (some ⟨g2, 0, none⟩) (ns.length + 1) cap2)
      have hgg2 : g ≠ g2 := fun e => by
        subst e
        obtain ⟨cur, hcur, _⟩ := rowN.blk
        have := (hb6.type_eq hcur).1
        revert this
        decide
      obtain ⟨q5, -⟩ := hL5.blk.rules
      obtain ⟨q6, f6⟩ := hb6.rules
      have lg5 := hL5.blk.lt
      have lg6 := hb6.lt
      have ln5 := HB5.out.lt
      have hld := run_ldR (P := Try.prog) HB5.out.drew.rng Try.underlying112 rfl (size_nd (⟨id, n, fset z0 k am⟩ : Nd))
      have Y := Lib.hid (And.intro hb7 (And.intro n7 (And.intro K7 r7)))
      have HNE := Lib.hid (And.intro hgg2 hne2)
      have HH5 := Lib.hid (And.intro hL5 HL5.out.2)
      clear hL5 HL5 rowN hk6 hgr hfr hb6 bn6 hb7 n7 K7 r7 hB1 HB5 HGN e1 e3 e4 e5 hne2 hgne hgg2
      go_region
      generalize W6.setCell _ _ = W7 at Y ⊢
      clear q5 q6 f6 lg5 lg6 ln5 hld happ
      go_wp2_with fail
      clear hlt hd hj hmj hm5
      go_loopw [10] (fun s10 wr => ∃ (j : Nat) (z : Nd), j ≤ ns.length ∧ s10 = .int .i64 j ∧ Blk wr g 46 (ledA inn kn (.slice (some ⟨g2, 0, none⟩) (ns.length + 1) cap2) vg gt vr) ∧ Blk wr gn 112 (ndA (⟨id, n, fset z0 k am⟩ : Nd)) ∧ Kt base [46, 112] W5 wr ∧ RowN wr base (.slice (some ⟨g2, 0, none⟩) (ns.length + 1) cap2) (gap ns j z)) (fun s10 _ => (intOf s10).toNat)
      case atStart => exact ⟨ns.length, (⟨id, n, fset z0 k am⟩ : Nd), Nat.le_refl _, rfl, Y.out.1, Y.out.2.1, Y.out.2.2.1, Y.out.2.2.2⟩
      case round =>
        obtain ⟨j, z, hj, rfl, hb, hbN, hK, hR⟩ := hrel
        clear Y
        obtain ⟨wo, rfl⟩ : ∃ wo : World, wo = wr := ⟨_, rfl⟩
        obtain ⟨q, f⟩ := hb.rules
        have lg := hb.lt
        have ln := hbN.lt
        by_cases hj0 : 0 < j
        · obtain ⟨x, hx⟩ : ∃ x, ns[j - 1]? = some x := ⟨ns[j - 1], List.getElem?_eq_getElem (by omega)⟩
          have hx2 : (gap ns j z)[j - 1]? = some x := by rw [gap_lo hj (by omega)]; exact hx
          have hc : wo.cell? ⟨g2, (j - 1) * 56, none⟩ = some (.int .u64 x.id) := hR.rng ndA_size hx2 0 _ (ndA_0 x)
          obtain ⟨b, hbb⟩ : ∃ b, decide (id < x.id) = b := ⟨_, rfl⟩
          have dk : decide ((0 : Int) < (j : Int)) = true := by simp; omega
          rcases (show b = true ∨ b = false from by cases b <;> simp) with rfl | rfl
          · have hRd : RowN wo.drew base (.slice (some ⟨g2, 0, none⟩) (ns.length + 1) cap2) (gap ns j z) := hR.call (Below.refl _ _).drew
            obtain ⟨w4, hst, hR4, hK4, hF4⟩ := hRd.putF (P := Try.prog) ndA_size (i := j) (by rw [gap_length hj]; omega) (gap_get hj) 112 0 (ndA x) (size_nd _) (by simp [ndA_size]) (ndA_all _) (y := x) (by simp [ndA_size, List.drop_of_length_le]) (ts := [46, 112]) (by simp)
            have hld := run_ldR (P := Try.prog) (hRd.rng ndA_size hx2) Try.underlying112 rfl (size_nd x)
            rw [Nat.add_zero] at hst
            have HN := Lib.hid (And.intro (hF4.blk hb.drew HNE.out.1 (by simp)) (And.intro (hF4.blk hbN.drew HNE.out.2 (by simp)) (And.intro (hK.trans (Kt.drew.trans hK4)) (And.intro hR4 hx))))
            clear hb hbN hK hR hRd hR4 hK4 hF4 hx hx2
            go_upto_region 18 with fail
            go_region
            clear q f hst hld hc lg ln
            go_wp2_with fail
            go_roundw
            case rel =>
              obtain ⟨n1, n2, n3, n4, n5⟩ := HN.out
              rw [gap_set hj] at n4
              have e := gap_down (t := ns) (k := j - 1) n5
              rw [show j - 1 + 1 = j from by omega] at e
              rw [e] at n4
              exact ⟨j - 1, x, by omega, congrArg (Value.int .i64) (by omega), n1, n2, n3, n4⟩
            case measure => simp [intOf]; omega
          · clear hx hx2
            have hRd : RowN wo.drew base (.slice (some ⟨g2, 0, none⟩) (ns.length + 1) cap2) (gap ns j z) := hR.call (Below.refl _ _).drew
            obtain ⟨w4, hst, hR4, hK4, hF4⟩ := hRd.putF (P := Try.prog) ndA_size (i := j) (by rw [gap_length hj]; omega) (gap_get hj) 112 0 (ndA (⟨id, n, fset z0 k am⟩ : Nd)) (size_nd _) (by simp [ndA_size]) (ndA_all _) (y := (⟨id, n, fset z0 k am⟩ : Nd)) (by simp [ndA_size, List.drop_of_length_le]) (ts := [46, 112]) (by simp)
            rw [Nat.add_zero] at hst
            rw [gap_set hj] at hR4
            have hld := run_ldR (P := Try.prog) hbN.drew.rng Try.underlying112 rfl (size_nd (⟨id, n, fset z0 k am⟩ : Nd))
            have FIN := Lib.hid (And.intro (hF4.blk hb.drew HNE.out.1 (by simp)) (And.intro (hK.trans (Kt.drew.trans hK4)) hR4))
            clear hR4 hK4 hF4 hRd hb hbN hK hR
            go_upto_region 20 with fail
            go_region
            clear q f hst hld
            go_wp2_with fail
            go_ret
            exact ⟨0, rfl, HH5.out.2.trans FIN.out.2.1.below, fun _ => ⟨_, _, _, _, _, _, _, _, _, _, HH5.out.1.nodes FIN.out.2.1 FIN.out.1 FIN.out.2.2, HO.out.add HPP.out.1 HPP.out.2.1 HPP.out.2.2.1 HPP.out.2.2.2.1 HPP.out.2.2.2.2 (gap_perm hj) rfl HIR.out⟩⟩
        · have dk : decide ((0 : Int) < (j : Int)) = false := by simp; omega
          have hRd : RowN wo.drew base (.slice (some ⟨g2, 0, none⟩) (ns.length + 1) cap2) (gap ns j z) := hR.call (Below.refl _ _).drew
          obtain ⟨w4, hst, hR4, hK4, hF4⟩ := hRd.putF (P := Try.prog) ndA_size (i := j) (by rw [gap_length hj]; omega) (gap_get hj) 112 0 (ndA (⟨id, n, fset z0 k am⟩ : Nd)) (size_nd _) (by simp [ndA_size]) (ndA_all _) (y := (⟨id, n, fset z0 k am⟩ : Nd)) (by simp [ndA_size, List.drop_of_length_le]) (ts := [46, 112]) (by simp)
          rw [Nat.add_zero] at hst
          rw [gap_set hj] at hR4
          have hld := run_ldR (P := Try.prog) hbN.drew.rng Try.underlying112 rfl (size_nd (⟨id, n, fset z0 k am⟩ : Nd))
          have FIN := Lib.hid (And.intro (hF4.blk hb.drew HNE.out.1 (by simp)) (And.intro (hK.trans (Kt.drew.trans hK4)) hR4))
          clear hR4 hK4 hF4 hRd hb hbN hK hR
          go_upto_region 20 with fail
          go_region
          clear q f hst hld
          go_wp2_with fail
          go_ret
          exact ⟨0, rfl, HH5.out.2.trans FIN.out.2.1.below, fun _ => ⟨_, _, _, _, _, _, _, _, _, _, HH5.out.1.nodes FIN.out.2.1 FIN.out.1 FIN.out.2.2, HO.out.add HPP.out.1 HPP.out.2.1 HPP.out.2.2.1 HPP.out.2.2.2.1 HPP.out.2.2.2.2 (gap_perm hj) rfl HIR.out⟩⟩
end
end Go.Proofs.Ytgbbhkdaalnchaa
