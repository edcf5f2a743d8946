/-
  The walk of the document's package leatref11: does.
-/
import Derived.Test.YtgbbhkdaalnchaaLf
namespace Go.Proofs.Ytgbbhkdaalnchaa
set_option linter.unusedVariables false
set_option linter.unusedSimpArgs false
open Go.RowKit Go Go.BigFrame
set_option maxRecDepth 100000

section
variable {w w' : World} {base g : Nat} {inn : Nat → Bool} {kn : Vec} {vn vg : Value} {gt : Nat} {vl : Value} {vr : Nat → Value} {ns : List Nd} {gs : List Grt} {t : List Tn} {rs : Nat → List Int} {cnt : Nat}
theorem LOk.mono {cnt' : Nat} (h : LOk ns gs t rs cnt) (hc : cnt ≤ cnt') : LOk ns gs t rs cnt' := ⟨h.tok, h.len, h.l32, h.ids, Nat.le_trans h.gl hc, fun k hk => Nat.le_trans (h.rl k hk) hc, h.rng⟩
theorem DoesPost.mono {w e w'} {cnt' : Nat} (h : DoesPost base g kn cnt w e w') (hc : cnt ≤ cnt') : DoesPost base g kn cnt' w e w' := by
  obtain ⟨n, h1, h2, h3⟩ := h
  exact ⟨n, h1, h2, fun hn => by
    obtain ⟨a1, a2, a3, a4, a5, a6, a7, a8, a9, a10, hL, hO⟩ := h3 hn
    exact ⟨a1, a2, a3, a4, a5, a6, a7, a8, a9, a10, hL, hO.mono hc⟩⟩
/-- What came before the call is kept in what comes behind. -/
theorem DoesPost.from {W : World} {e : Ending} (h : DoesPost base g kn cnt W e w') (hb : Below base w W) : DoesPost base g kn cnt w e w' := by
  obtain ⟨n, h1, h2, h3⟩ := h
  exact ⟨n, h1, hb.trans h2, h3⟩
/-- A region comes, or goes. -/
theorem Led.turnIn {i : Nat} {b : Bool} {inn' : Nat → Bool} (h : Led w base g inn kn vn vg gt vl vr ns gs t rs) (hs : (ledA inn kn vn vg gt vr).setIfInBounds i (.bool b) = ledA inn' kn vn vg gt vr) : Led (w.setCell ⟨g, i, none⟩ (.bool b)) base g inn' kn vn vg gt vl vr ns gs t rs ∧ Below base w (w.setCell ⟨g, i, none⟩ (.bool b)) := by
  have S : Kt base [46] w (w.setCell ⟨g, i, none⟩ (.bool b)) := Kt.setCell h.blk (by simp) h.ge _ _
  have hb := h.blk.set_ i (.bool b)
  rw [hs] at hb
  exact ⟨⟨hb, h.ge, ⟨S.blk _ _ _ h.tre.blk (by decide), S.row h.tre.row (by decide), h.tre.ge⟩, S.row h.rn (by decide), S.row h.rg (by decide), fun k hk => S.row (h.rr k hk) (by decide), h.apart⟩, S.below⟩
set_option maxHeartbeats 4000000 in
theorem ldoes1 (h : Led w base g inn kn vn vg gt vl vr ns gs t rs) (ok : LOk ns gs t rs cnt) (e : Ev) (ho : e.ok) (k : Nat) (hk : k < 6) (hek : e.o = (k : Int) + 1) (hc : cnt ≤ 900) (hk1 : e.k = 1) :
    Calls Try.prog 63 #[.pointer (some ⟨g, 0, none⟩), .agg (evA e)] w (DoesPost base g kn (cnt + 1) w) := by
  obtain ⟨An, cn, rfl, hcn, hmn⟩ := h.rn.sl
  unfold maxLen at hmn
  obtain ⟨o, s, d, kd, n, tt, am, rq, f⟩ := e
  obtain rfl : o = (k : Int) + 1 := hek
  obtain rfl : kd = 1 := hk1
  have T0 : Trk w _ [(w.heap.size, 32, evA (⟨(k : Int) + 1, s, d, 1, n, tt, am, rq, f⟩ : Ev))] := (Trk.nil w).push (t := 32) (cs := evA (⟨(k : Int) + 1, s, d, 1, n, tt, am, rq, f⟩ : Ev)) rfl
  have HH := Lib.hid h
  have HO := Lib.hid ok
  have hbs := h.lt
  have hns : ns.length ≤ 32 := by have := ok.len; have := ok.l32; omega
  have k0 : (0 : Int) ≤ (k : Int) := by omega
  have k6 : (k : Int) < 6 := by omega
  have HT := Lib.hid T0
  have hL := h.call T0.below
  have C1 := Lib.hid (lmakes hL ok (⟨(k : Int) + 1, s, d, 1, n, tt, am, rq, f⟩ : Ev) ho k hk rfl hc)
  clear h ok T0 hL ho
  go_enter Try.func63, Try.ntmps63
  go_wp2_with fail
  refine C1.out.mono ?_
  rintro r w1 hp
  obtain ⟨n0, rfl, h2, h3⟩ := hp
  have X := Lib.hid (show DoesPost base g kn (cnt + 1) w (.returned (.int .i64 n0)) w1 from DoesPost.from (DoesPost.mono (cnt := cnt) ⟨n0, rfl, h2, h3⟩ (by omega)) (HT.out.below.mono hbs))
  clear h2 h3
  go_wp2_with fail
  go_ret
  exact X.out
set_option maxHeartbeats 4000000 in
theorem ldoes3 (h : Led w base g inn kn vn vg gt vl vr ns gs t rs) (ok : LOk ns gs t rs cnt) (e : Ev) (ho : e.ok) (k : Nat) (hk : k < 6) (hek : e.o = (k : Int) + 1) (hc : cnt ≤ 900) (hk1 : e.k = 3) :
    Calls Try.prog 63 #[.pointer (some ⟨g, 0, none⟩), .agg (evA e)] w (DoesPost base g kn (cnt + 1) w) := by
  obtain ⟨An, cn, rfl, hcn, hmn⟩ := h.rn.sl
  unfold maxLen at hmn
  obtain ⟨o, s, d, kd, n, tt, am, rq, f⟩ := e
  obtain rfl : o = (k : Int) + 1 := hek
  obtain rfl : kd = 3 := hk1
  have T0 : Trk w _ [(w.heap.size, 32, evA (⟨(k : Int) + 1, s, d, 3, n, tt, am, rq, f⟩ : Ev))] := (Trk.nil w).push (t := 32) (cs := evA (⟨(k : Int) + 1, s, d, 3, n, tt, am, rq, f⟩ : Ev)) rfl
  have HH := Lib.hid h
  have HO := Lib.hid ok
  have hbs := h.lt
  have hns : ns.length ≤ 32 := by have := ok.len; have := ok.l32; omega
  have k0 : (0 : Int) ≤ (k : Int) := by omega
  have k6 : (k : Int) < 6 := by omega
  have HT := Lib.hid T0
  have hL := h.call T0.below
  have C1 := Lib.hid (ltakes hL ok (⟨(k : Int) + 1, s, d, 3, n, tt, am, rq, f⟩ : Ev) ho k hk rfl hc)
  clear h ok T0 hL ho
  go_enter Try.func63, Try.ntmps63
  go_wp2_with fail
  refine C1.out.mono ?_
  rintro r w1 hp
  obtain ⟨n0, rfl, h2, h3⟩ := hp
  have X := Lib.hid (show DoesPost base g kn (cnt + 1) w (.returned (.int .i64 n0)) w1 from DoesPost.from (⟨n0, rfl, h2, h3⟩) (HT.out.below.mono hbs))
  clear h2 h3
  go_wp2_with fail
  go_ret
  exact X.out
set_option maxHeartbeats 4000000 in
theorem ldoes4 (h : Led w base g inn kn vn vg gt vl vr ns gs t rs) (ok : LOk ns gs t rs cnt) (e : Ev) (ho : e.ok) (k : Nat) (hk : k < 6) (hek : e.o = (k : Int) + 1) (hc : cnt ≤ 900) (hk1 : e.k = 4) :
    Calls Try.prog 63 #[.pointer (some ⟨g, 0, none⟩), .agg (evA e)] w (DoesPost base g kn (cnt + 1) w) := by
  obtain ⟨An, cn, rfl, hcn, hmn⟩ := h.rn.sl
  unfold maxLen at hmn
  obtain ⟨o, s, d, kd, n, tt, am, rq, f⟩ := e
  obtain rfl : o = (k : Int) + 1 := hek
  obtain rfl : kd = 4 := hk1
  have T0 : Trk w _ [(w.heap.size, 32, evA (⟨(k : Int) + 1, s, d, 4, n, tt, am, rq, f⟩ : Ev))] := (Trk.nil w).push (t := 32) (cs := evA (⟨(k : Int) + 1, s, d, 4, n, tt, am, rq, f⟩ : Ev)) rfl
  have HH := Lib.hid h
  have HO := Lib.hid ok
  have hbs := h.lt
  have hns : ns.length ≤ 32 := by have := ok.len; have := ok.l32; omega
  have k0 : (0 : Int) ≤ (k : Int) := by omega
  have k6 : (k : Int) < 6 := by omega
  have HT := Lib.hid T0
  have hL := h.call T0.below
  have C1 := Lib.hid (lfrees hL ok (⟨(k : Int) + 1, s, d, 4, n, tt, am, rq, f⟩ : Ev) ho k hk rfl hc)
  clear h ok T0 hL ho
  go_enter Try.func63, Try.ntmps63
  go_wp2_with fail
  refine C1.out.mono ?_
  rintro r w1 hp
  obtain ⟨n0, rfl, h2, h3⟩ := hp
  have X := Lib.hid (show DoesPost base g kn (cnt + 1) w (.returned (.int .i64 n0)) w1 from DoesPost.from (⟨n0, rfl, h2, h3⟩) (HT.out.below.mono hbs))
  clear h2 h3
  go_wp2_with fail
  go_ret
  exact X.out
set_option maxHeartbeats 4000000 in
theorem ldoes7 (h : Led w base g inn kn vn vg gt vl vr ns gs t rs) (ok : LOk ns gs t rs cnt) (e : Ev) (ho : e.ok) (k : Nat) (hk : k < 6) (hek : e.o = (k : Int) + 1) (hc : cnt ≤ 900) (hk1 : e.k = 7) :
    Calls Try.prog 63 #[.pointer (some ⟨g, 0, none⟩), .agg (evA e)] w (DoesPost base g kn (cnt + 1) w) := by
  obtain ⟨An, cn, rfl, hcn, hmn⟩ := h.rn.sl
  unfold maxLen at hmn
  obtain ⟨o, s, d, kd, n, tt, am, rq, f⟩ := e
  obtain rfl : o = (k : Int) + 1 := hek
  obtain rfl : kd = 7 := hk1
  have T0 : Trk w _ [(w.heap.size, 32, evA (⟨(k : Int) + 1, s, d, 7, n, tt, am, rq, f⟩ : Ev))] := (Trk.nil w).push (t := 32) (cs := evA (⟨(k : Int) + 1, s, d, 7, n, tt, am, rq, f⟩ : Ev)) rfl
  have HH := Lib.hid h
  have HO := Lib.hid ok
  have hbs := h.lt
  have hns : ns.length ≤ 32 := by have := ok.len; have := ok.l32; omega
  have k0 : (0 : Int) ≤ (k : Int) := by omega
  have k6 : (k : Int) < 6 := by omega
  have HT := Lib.hid T0
  have hL := h.call T0.below
  have hL9 := (hL.call (Below.refl _ _).drew).turnIn (ledA_set_left inn kn _ vg gt vr k hk true)
  have c := ledA_left inn kn (.slice An ns.length cn) vg gt vr k hk
  obtain ⟨q, fz⟩ := hL.blk.rules
  obtain ⟨q1, -, -⟩ := T0.rules
  have lg := hL.blk.lt
  have lt := T0.lt
  have hs1 : ((w.alloc (.cells (evA (⟨(k : Int) + 1, s, d, 7, n, tt, am, rq, f⟩ : Ev)) 32)).setCell ⟨g, 6 + k, none⟩ (.bool true)).drew = (w.alloc (.cells (evA (⟨(k : Int) + 1, s, d, 7, n, tt, am, rq, f⟩ : Ev)) 32)).drew.setCell ⟨g, 6 + k, none⟩ (.bool true) := by simp [World.setCell_drew]
  rw [← hs1] at hL9
  have X := Lib.hid (And.intro hL9.1 ((T0.below.drew.mono hbs).trans hL9.2))
  clear h ok T0 hL ho hL9 hs1
  go_enter Try.func63, Try.ntmps63
  go_upto_region 28 with fail
  generalize w.alloc _ = W at HT q q1 fz lg lt X ⊢
  go_region
  clear q q1 fz c lg lt
  go_wp2_with fail
  go_ret
  exact ⟨0, rfl, X.out.2, fun _ => ⟨_, _, _, _, _, _, _, _, _, _, X.out.1, HO.out.mono (by omega)⟩⟩
set_option maxHeartbeats 4000000 in
theorem ldoes6 (h : Led w base g inn kn vn vg gt vl vr ns gs t rs) (ok : LOk ns gs t rs cnt) (e : Ev) (ho : e.ok) (k : Nat) (hk : k < 6) (hek : e.o = (k : Int) + 1) (hc : cnt ≤ 900) (hk1 : e.k = 6) (m : Nat) (hm : m < 6) (ht : e.t = (m : Int) + 1) :
    Calls Try.prog 63 #[.pointer (some ⟨g, 0, none⟩), .agg (evA e)] w (DoesPost base g kn (cnt + 1) w) := by
  obtain ⟨An, cn, rfl, hcn, hmn⟩ := h.rn.sl
  unfold maxLen at hmn
  obtain ⟨o, s, d, kd, n, tt, am, rq, f⟩ := e
  obtain rfl : o = (k : Int) + 1 := hek
  obtain rfl : kd = 6 := hk1
  obtain rfl : tt = (m : Int) + 1 := ht
  have m0 : (0 : Int) ≤ (m : Int) := by omega
  have m6 : (m : Int) < 6 := by omega
  have T0 : Trk w _ [(w.heap.size, 32, evA (⟨(k : Int) + 1, s, d, 6, n, (m : Int) + 1, am, rq, f⟩ : Ev))] := (Trk.nil w).push (t := 32) (cs := evA (⟨(k : Int) + 1, s, d, 6, n, (m : Int) + 1, am, rq, f⟩ : Ev)) rfl
  have HH := Lib.hid h
  have HO := Lib.hid ok
  have hbs := h.lt
  have hns : ns.length ≤ 32 := by have := ok.len; have := ok.l32; omega
  have k0 : (0 : Int) ≤ (k : Int) := by omega
  have k6 : (k : Int) < 6 := by omega
  have HT := Lib.hid T0
  have hL := h.call T0.below
  have hL9 := (hL.call (Below.refl _ _).drew).turnIn (ledA_set_in inn kn _ vg gt vr m hm true)
  have c := ledA_in inn kn (.slice An ns.length cn) vg gt vr m hm
  obtain ⟨q, fz⟩ := hL.blk.rules
  obtain ⟨q1, -, -⟩ := T0.rules
  have lg := hL.blk.lt
  have lt := T0.lt
  have hs1 : ((w.alloc (.cells (evA (⟨(k : Int) + 1, s, d, 6, n, (m : Int) + 1, am, rq, f⟩ : Ev)) 32)).setCell ⟨g, m, none⟩ (.bool true)).drew = (w.alloc (.cells (evA (⟨(k : Int) + 1, s, d, 6, n, (m : Int) + 1, am, rq, f⟩ : Ev)) 32)).drew.setCell ⟨g, m, none⟩ (.bool true) := by simp [World.setCell_drew]
  rw [← hs1] at hL9
  have X := Lib.hid (And.intro hL9.1 ((T0.below.drew.mono hbs).trans hL9.2))
  clear h ok T0 hL ho hL9 hs1
  go_enter Try.func63, Try.ntmps63
  go_upto_region 26 with fail
  generalize w.alloc _ = W at HT q q1 fz lg lt X ⊢
  go_region
  clear q q1 fz c lg lt
  go_wp2_with fail
  go_ret
  exact ⟨0, rfl, X.out.2, fun _ => ⟨_, _, _, _, _, _, _, _, _, _, X.out.1, HO.out.mono (by omega)⟩⟩
end
end Go.Proofs.Ytgbbhkdaalnchaa
