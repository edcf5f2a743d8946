/-
  The walk of the document's package leatref11: World.Do.
-/
import Derived.Test.YtgbbhkdaalnchaaGS
import Derived.Test.YtgbbhkdaalnchaaWc
import Derived.Test.YtgbbhkdaalnchaaGR
namespace Go.Proofs.Ytgbbhkdaalnchaa
set_option linter.unusedVariables false
set_option linter.unusedSimpArgs false
open Go.RowKit Go Go.BigFrame
set_option maxRecDepth 100000

/-- What the regions know, of what they made. -/
structure WOk (ls : List (Nat × Vec)) (all : List Ev) : Prop where
  made : Made all
  fits : ∀ p ∈ ls, Fits all p.2
  own : ∀ i p, ls[i]? = some p → p.2.get i = (cntO i all : Int)
section
variable {w w' : World} {base gw : Nat} {vL vA : Value} {ls : List (Nat × Vec)} {all : List Ev} {o : Nat} {p y : Nat × Vec}
theorem WOk.turn (h : WOk ls all) (hf : Fits all y.2) (hy : y.2.get o = (cntO o all : Int)) : WOk (ls.set o y) all := by
  refine ⟨h.made, fun q hq => ?_, fun i q hq => ?_⟩
  · rcases List.mem_or_eq_of_mem_set hq with hq | rfl
    · exact h.fits q hq
    · exact hf
  · rw [List.getElem?_set] at hq
    split at hq
    · rename_i e; subst e
      split at hq
      · injection hq with hq; subst hq; exact hy
      · cases hq
    · exact h.own i q hq
theorem WOk.add {e : Ev} {g' : Nat} (h : WOk ls all) (h6 : ls.length ≤ 6) (hp : ls[o]? = some p) (ho : e.ok) (hm : emayB e = true) (hek : e.o = (o : Int) + 1) (hs : e.s = p.2.get o + 1) (hd : e.d = p.2) (hr : readyB p.2 e = true) : WOk (ls.set o (g', p.2.set o (p.2.get o + 1))) (all ++ [e]) := by
  have ho6 : o < 6 := by have := (List.getElem?_eq_some_iff.1 hp).1; omega
  have hf := h.fits p (List.mem_of_getElem? hp)
  have hM : Made (all ++ [e]) := h.made.add hf ho hm ho6 hek (by rw [hs, h.own o p hp]) hd
  refine ⟨hM, fun q hq => ?_, fun i q hq => ?_⟩
  · rcases List.mem_or_eq_of_mem_set hq with hq | rfl
    · exact (h.fits q hq).more e
    · exact (hf.more e).step hM (by simp) hr ho6 hek
  · rw [List.getElem?_set] at hq
    split at hq
    · rename_i e1; subst e1
      split at hq
      · injection hq with hq; subst hq
        dsimp only
        rw [Vec.get_set _ _ _ _ ho6 ho6, if_pos rfl, cntO_append, cntO_one_same hek, h.own o p hp]
        simp
      · cases hq
    · rw [cntO_append, cntO_one_other (by rw [hek]; omega), h.own i q hq]
      simp
theorem Wld.turn {gl cap : Nat} (h : Wld w base gw (.slice (some ⟨gl, 0, none⟩) ls.length cap) vA ls all) (hp : ls[o]? = some p) (hL : LedK w y.1 y.2) :
    Wld (w.setCell ⟨gl, o, none⟩ (.pointer (some ⟨y.1, 0, none⟩))) base gw (.slice (some ⟨gl, 0, none⟩) (ls.set o y).length cap) vA (ls.set o y) all ∧ Kt base [47] w (w.setCell ⟨gl, o, none⟩ (.pointer (some ⟨y.1, 0, none⟩))) := by
  obtain ⟨r, K⟩ := h.rl.cell ptA_size hp (y := y) 0 (.pointer (some ⟨y.1, 0, none⟩)) (by decide) rfl (ts := [47]) (by simp)
  rw [show o * 1 + 0 = o from by omega] at r K
  refine ⟨⟨K.blk _ _ _ (by rw [List.length_set]; exact h.blk) (by decide), h.ge, by rw [List.length_set]; exact r, K.row h.ra (by decide), fun q hq => ?_⟩, K⟩
  have h0 : LedK w q.1 q.2 := by
    rcases List.mem_or_eq_of_mem_set hq with hq | rfl
    · exact h.led q hq
    · exact hL
  exact h0.kt K (by decide) (by decide) (by decide) (by decide) (by decide) (by decide)
/-- What Do leaves: so many regions; what they made, and one event more at most. -/
def DoPost (base gw n m : Nat) (w : World) (r : Ending) (w' : World) : Prop := ∃ e vL vA ls all, r = .returned (.agg (evA e)) ∧ Wld w' base gw vL vA ls all ∧ WOk ls all ∧ ls.length = n ∧ all.length ≤ m + 1 ∧ Below base w w'
/-- An event stored whole. -/
def setEv14 (w : World) (g : Nat) (R : Ev) : World := ((((((((((((((w.setCell ⟨g, 0, none⟩ (.int .i64 R.o)).setCell ⟨g, 1, none⟩ (.int .u64 R.s)).setCell ⟨g, 2, none⟩ (.int .u64 R.d.v0)).setCell ⟨g, 3, none⟩ (.int .u64 R.d.v1)).setCell ⟨g, 4, none⟩ (.int .u64 R.d.v2)).setCell ⟨g, 5, none⟩ (.int .u64 R.d.v3)).setCell ⟨g, 6, none⟩ (.int .u64 R.d.v4)).setCell ⟨g, 7, none⟩ (.int .u64 R.d.v5)).setCell ⟨g, 8, none⟩ (.int .u8 R.k)).setCell ⟨g, 9, none⟩ (.int .u64 R.n)).setCell ⟨g, 10, none⟩ (.int .i64 R.t)).setCell ⟨g, 11, none⟩ (.int .i64 R.a)).setCell ⟨g, 12, none⟩ (.int .u64 R.r)).setCell ⟨g, 13, none⟩ (.int .u64 R.f))
theorem setEv14_fr (w : World) (g : Nat) (R : Ev) : Fr w (setEv14 w g R) g none := ((((((((((((((Fr.of_set ⟨g, 0, none⟩ rfl _).set ⟨g, 1, none⟩ rfl _).set ⟨g, 2, none⟩ rfl _).set ⟨g, 3, none⟩ rfl _).set ⟨g, 4, none⟩ rfl _).set ⟨g, 5, none⟩ rfl _).set ⟨g, 6, none⟩ rfl _).set ⟨g, 7, none⟩ rfl _).set ⟨g, 8, none⟩ rfl _).set ⟨g, 9, none⟩ rfl _).set ⟨g, 10, none⟩ rfl _).set ⟨g, 11, none⟩ rfl _).set ⟨g, 12, none⟩ rfl _).set ⟨g, 13, none⟩ rfl _)
theorem Kt.fr {w w' : World} {base g : Nat} {ts : List TypeId} {t : TypeId} {cs : Array Value} (f : Fr w w' g none) (hb : Blk w g t cs) (ht : t ∈ ts) (hg : base ≤ g) (hs : base ≤ w.heap.size) : Kt base ts w w' :=
  ⟨f.belowB hg (fun _ h => by cases h) hs, fun g' t' cs' h hn => f.blk h (fun e => hn (by
    subst e
    rw [(h.type_eq hb).1]; exact ht)) (by simp)⟩
/-- A block of an event apart has turned. -/
theorem Wld.fr {g : Nat} {cs : Array Value} (h : Wld w base gw vL vA ls all) (f : Fr w w' g none) (hb : Blk w g 32 cs) (hne : vA.ownBlock ≠ some g) : Wld w' base gw vL vA ls all := by
  have K : Kt 0 [32] w w' := Kt.fr f hb (by simp) (Nat.zero_le _) (Nat.zero_le _)
  exact ⟨K.blk _ _ _ h.blk (by decide), h.ge, K.row h.rl (by decide), f.own h.ra hne (by cases vA.ownBlock <;> simp), fun p hp => (h.led p hp).kt K (by decide) (by decide) (by decide) (by decide) (by decide) (by decide)⟩
/-- What learn answered. -/
def peLearn (all : List Ev) (kn : Vec) : Pe Sbl := ⟨fun u => ∃ g' : Nat, u = .pointer (some ⟨g', 0, none⟩), fun u w => ∃ (g' : Nat) (kn' : Vec), u = .pointer (some ⟨g', 0, none⟩) ∧ LedK w g' kn' ∧ Fits all kn' ∧ ∀ r, r < 6 → kn.get r ≤ kn'.get r, ⟨_, 0, rfl⟩,
  fun _ _ _ ⟨g', kn', e, h1, h2⟩ hb => ⟨g', kn', e, h1.call hb, h2⟩⟩
set_option maxHeartbeats 2000000 in
theorem wdo_meet (h : Wld w base gw vL vA ls all) (ok : WOk ls all) (x : Ac) (hx : x.ok) (hn : 0 < ls.length) (h6 : ls.length ≤ 6) (hl : all.length ≤ 99) (hm : x.m = true) :
    Calls Try.prog 12 #[.pointer (some ⟨gw, 0, none⟩), .agg (acA x)] w (DoPost base gw ls.length all.length w) := by
  obtain ⟨gl, cl, rfl, hcl, hml, hgl, lgl⟩ := h.rl.sl_pos hn
  obtain ⟨Aa, ca, rfl, hca, hma⟩ := h.ra.sl
  obtain ⟨xw, xm, xo, xk, xn, xt, xa, xr, xf⟩ := x
  obtain rfl : xm = true := hm
  have hxw : (xw : Int) ≤ 255 := by have := hx.w; simp at this; omega
  have hxo : (xo : Int) ≤ 255 := by have := hx.o; simp at this; omega
  clear hx
  have T0 : Trk { w with heap := #[] } _ [(w.heap.size + 1, 32, evA Ev.zero), (w.heap.size, 36, acA ⟨xw, true, xo, xk, xn, xt, xa, xr, xf⟩)] := ((Trk.bare w).push (t := 36) (cs := acA ⟨xw, true, xo, xk, xn, xt, xa, xr, xf⟩) rfl).push (t := 32) (cs := evA Ev.zero) (g := w.heap.size + 1) (by simp)
  have hB0 : Below w.heap.size w ((w.alloc (.cells (acA ⟨xw, true, xo, xk, xn, xt, xa, xr, xf⟩) 36)).alloc (.cells (evA Ev.zero) 32)) := ((Below.refl _ _).alloc (Nat.le_refl _) _).alloc (by simp) _
  have HH := Lib.hid (And.intro h (And.intro ok hl))
  have hW := h.call hB0
  obtain ⟨q1, -, q0, -, -⟩ := T0.rules
  obtain ⟨l1, l0, -⟩ := T0.lts
  obtain ⟨q, -⟩ := hW.blk.rules
  have lg := hW.blk.lt
  have ho := Nat.mod_lt xw hn
  have ho2 := Nat.mod_lt xo hn
  obtain ⟨p, hp⟩ : ∃ p, ls[xw % ls.length]? = some p := ⟨_, List.getElem?_eq_getElem ho⟩
  obtain ⟨p2, hp2⟩ : ∃ p, ls[xo % ls.length]? = some p := ⟨_, List.getElem?_eq_getElem ho2⟩
  obtain ⟨ls', hls⟩ : ∃ n, ls.length = n := ⟨_, rfl⟩
  rw [hls] at ho ho2 h6 hn hp hp2 q hcl
  obtain ⟨o, hoe⟩ : ∃ o, xw % ls' = o := ⟨_, rfl⟩
  obtain ⟨o2, hoe2⟩ : ∃ o, xo % ls' = o := ⟨_, rfl⟩
  rw [hoe] at ho hp
  rw [hoe2] at ho2 hp2
  have ht : Int.tmod (xw : Int) (ls' : Int) = (o : Int) := by rw [← hoe]; rfl
  have ht2 : Int.tmod (xo : Int) (ls' : Int) = (o2 : Int) := by rw [← hoe2]; rfl
  have o0 : (0 : Int) ≤ (o : Int) := by omega
  have o6 : (o : Int) < 6 := by omega
  have HT := Lib.hid (And.intro T0 hB0)
  have HP := Lib.hid (And.intro hp (And.intro hp2 (And.intro hls (And.intro hml hma))))
  clear h ok hoe hoe2 hls hp hp2 T0 hB0 hW hml hma hl
  go_enter Try.func12, Try.ntmps12
  go_upto_region 1 with fail
  go_quiet (fail)
  have HT1 := Lib.hid (And.intro (HT.out.1.drewN nq) (below_drewN HT.out.2 nq))
  generalize ((w.alloc _).alloc _).drewN nq = W1 at HT1 ⊢
  clear q q0 q1 l0 l1 lg HT ht
  obtain ⟨q1, -, q0, -, -⟩ := HT1.out.1.rules
  obtain ⟨l1, l0, -⟩ := HT1.out.1.lts
  have hW := HH.out.1.call HT1.out.2
  rw [HP.out.2.2.1] at hW
  obtain ⟨q, -⟩ := hW.blk.rules
  have lg := hW.blk.lt
  have lgl1 : gl < W1.heap.size := Nat.lt_of_lt_of_le lgl HT1.out.2.size
  have hp0 := hW.rl.rng ptA_size HP.out.1 0 (.pointer (some ⟨p.1, 0, none⟩)) rfl
  have hp1 : W1.cell? ⟨gl, o, none⟩ = some (.pointer (some ⟨p.1, 0, none⟩)) := by rw [show o * 1 + 0 = o from by omega] at hp0; exact hp0
  have hp0 := hW.rl.rng ptA_size HP.out.2.1 0 (.pointer (some ⟨p2.1, 0, none⟩)) rfl
  have hp2 : W1.cell? ⟨gl, o2, none⟩ = some (.pointer (some ⟨p2.1, 0, none⟩)) := by rw [show o2 * 1 + 0 = o2 from by omega] at hp0; exact hp0
  have hK := hW.led p (List.mem_of_getElem? HP.out.1)
  obtain ⟨inn, vn, vg, gt, vl, vr, ns, gs, t, rs, hL, -⟩ := hW.led p2 (List.mem_of_getElem? HP.out.2.1)
  obtain ⟨g1, k1⟩ := p
  obtain ⟨g2, k2⟩ := p2
  dsimp only at hp1 hp2 hL hK
  obtain ⟨q2, -⟩ := hL.blk.rules
  have ll := hL.blk.lt
  have hE := hW.ra.erows rfl
  have CL := Lib.hid (fun W (hB : Below W1.heap.size W1 W) => rlearn (hK.call hB) (HH.out.2.1.fits _ (List.mem_of_getElem? HP.out.1)) HH.out.2.1.made (by have := HH.out.2.2; omega) ((hE.below hB).mono hB.size) (by have := HP.out.2.2.2.2; omega) HP.out.2.2.2.2 k2)
  clear hp0 hL hW hK hE
  go_upto_region 3 with fail
  refine wp_region_lst (C := fun w' => ∃ x : Later W1, w' = x.w) (S := Sbl) 35 37 [peLearn all k1, peIs (.pointer (some ⟨gl, o, none⟩))] (by kernel_rfl) (by simp) (by decide) (by kernel_rfl) (by kernel_rfl) (by kernel_rfl) (by kernel_rfl) (by kernel_rfl) ⟨⟨_, (Below.refl _ _).drew⟩, rfl⟩ (fun _ _ => Below.refl _ _) ?_
  simp only [List.take_succ_cons, List.take_zero, List.drop_succ_cons, List.drop_zero]
  repeat (go_big_quiet_step (fail))
  refine wpQuiet_nil ?_
  intro F' hF'
  refine ls_call rfl (peLearn all k1) rfl 41 #[.pointer (some ⟨g1, 0, none⟩), .slice Aa all.length ca, .agg (vecA k2)] ?_ (fun y => (CL.out y.w y.below).mono ?_) ?_
  · intro W; simp [execOp, resolve, invoke, go_sem] <;> rfl
  · rintro e w' ⟨g', kn', rfl, h1, h2, h3, h4⟩
    exact ⟨_, rfl, ⟨g', rfl⟩, h1, g', kn', rfl, h2, h3, h4⟩
  rintro _ ⟨g', rfl⟩
  refine ls_val rfl (.pointer (some ⟨gl, o, none⟩)) rfl (fun y => ?_) ?_
  · simp [execOp, go_sem, o0, o6]
    intro h
    omega
  rintro w3 ⟨x3, rfl⟩ hF3
  have hb3 := x3.below
  generalize x3.w = w3 at hF3 hb3 ⊢
  obtain ⟨g2', kn', e9, hL3, hf3, hmono⟩ := hF3 35 (.pointer (some ⟨g', 0, none⟩)) (by simp [Known.ins]) _ rfl
  obtain rfl : g' = g2' := by simpa using e9
  have HT3 := Lib.hid (And.intro (HT1.out.1.call hb3) (HT1.out.2.trans (hb3.mono HT1.out.2.size)))
  clear CL HT1 q q0 q1 q2 l0 l1 lg lgl1 ll hp0 hp1 hp2 ht2 e9 hF3 hF'
  have hW := HH.out.1.call HT3.out.2
  have fz := hW.rl.frozen o
  have c3 := hW.rl.rng ptA_size HP.out.1 0 (.pointer (some ⟨g1, 0, none⟩)) rfl
  rw [show o * 1 + 0 = o from by omega] at c3
  have lgl3 : gl < w3.heap.size := Nat.lt_of_lt_of_le lgl HT3.out.2.size
  obtain ⟨hW4, K4⟩ := hW.turn (y := (g', kn')) HP.out.1 hL3
  have T4 := K4.trk HT3.out.1 (Nat.zero_le _) (fun g t cs hm => by simp at hm; rcases hm with ⟨_, rfl, _⟩ | ⟨_, rfl, _⟩ <;> decide)
  have Z := Lib.hid (And.intro hW4 (And.intro ((HT3.out.2.mono (Nat.le_trans HH.out.1.ge (Nat.le_of_lt HH.out.1.blk.lt))).trans (K4.below)) (And.intro T4 (HH.out.2.1.turn (o := o) (y := (g', kn')) hf3 (by
    have h1 := (hf3 o (by omega)).2
    have h2 := HH.out.2.1.own o _ HP.out.1
    have h3 := hmono o (by omega)
    dsimp only at h2 ⊢
    omega)))))
  clear hW hW4 K4 T4 hL3 hf3 hmono hb3
  go_upto_region 4 with fail
  generalize w3.setCell _ _ = W5 at Z ⊢
  clear fz lgl3 HT3 c3
  obtain ⟨q1, f1, -, -, -⟩ := Z.out.2.2.1.rules
  obtain ⟨l1, -, -⟩ := Z.out.2.2.1.lts
  go_wp2_with fail
  have T6 := Z.out.2.2.1.setEv (Nat.zero_le _) ⟨by omega, trivial⟩ Ev.zero
  have b6 := Z.out.2.2.1.blk _ _ _ List.mem_cons_self
  have hW6 := Z.out.1.fr (setEv14_fr _ (w.heap.size + 1) Ev.zero) b6 (fun e => by have := (HH.out.1.ra.ge _ e).2; omega)
  have hB6 : Below base w (setEv14 W5 (w.heap.size + 1) Ev.zero) := Z.out.2.1.trans ((setEv14_fr W5 (w.heap.size + 1) Ev.zero).belowB (by omega) (fun _ h => by cases h) (by omega))
  exact bodyPost_ret (v := .agg (evA Ev.zero)) (results_ev (s := 4) (by kernel_rfl) _ (w.heap.size + 1) Ev.zero _ rfl (T6.blk _ _ _ List.mem_cons_self)) rfl ⟨Ev.zero, _, _, _, _, rfl, hW6, Z.out.2.2.2, by simp, by omega, hB6⟩
end
end Go.Proofs.Ytgbbhkdaalnchaa
