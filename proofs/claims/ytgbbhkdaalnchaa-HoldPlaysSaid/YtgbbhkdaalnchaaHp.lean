/-
  The walk of HoldPlays.
-/
import Derived.Test.YtgbbhkdaalnchaaGT
import Derived.Test.YtgbbhkdaalnchaaHq
import Derived.Deep.RegionHeld3
namespace Go.Proofs.Ytgbbhkdaalnchaa
set_option linter.unusedVariables false
set_option linter.unusedSimpArgs false
open Go.RowKit Go Go.BigFrame
set_option maxRecDepth 100000

/-- Both holds, what is known, and the world of before. -/
structure HPs (W0 w : World) (h m b gv : Nat) (kn : Vec) (LA LB : List Ev) (v : Value) : Prop where
  H : HO w h m LA
  R : RHo w b b v LB
  K : Blk w gv 30 (vecA kn)
  lo : Below W0.heap.size W0 w
  p : LA.Perm LB
  ok : ∀ e ∈ LA, e.ok
  le : LA.length ≤ 64
/-- Where the blocks stand. -/
structure HPn (W0 : World) (h m b gv : Nat) : Prop where
  a : W0.heap.size ≤ h
  c : W0.heap.size ≤ m
  d : h < b
  e : m < b
  f : b < gv
theorem step_calh {P : Program} {ops : Array Oper} {o : Oper} {a : Act} {w : World} {K : Act → World → Prop} {Q : Exit → Act → World → Prop} {E : Prop} (hg : o.guard = none) (f : FuncId) (args : Array Value) (he : (execOp a.eval o).run P w = .ok (.enter f args) w)
    {R : Ending → World → Prop} (c : Calls P f args w R) (h : ∀ e w', R e w' → ∃ u, e = .returned u ∧ K (a.put o.dst u) w') : if Region.wanted o (yielded ops a.tmps) = true then Oper.wp P o a w K Q else E := by
  have hw : Region.wanted o (yielded ops a.tmps) = true := by simp [Region.wanted, hg]
  rw [if_pos hw]
  unfold Oper.wp
  rw [he]
  refine Calls.mono c fun e w' hr => ?_
  obtain ⟨u, rfl, hk⟩ := h e w' hr
  exact hk
section
variable {W0 w w' : World} {h m b gv : Nat} {kn : Vec} {LA LB LA' LB' : List Ev} {v v' : Value}
theorem HPs.call (S : HPs W0 w h m b gv kn LA LB v) (hb : Below w.heap.size w w') : HPs W0 w' h m b gv kn LA LB v := ⟨S.H.call hb, S.R.call hb, S.K.call hb, S.lo.trans (hb.mono S.lo.size), S.p, S.ok, S.le⟩
theorem HPs.own (S : HPs W0 w h m b gv kn LA LB v) : ∀ g, v.ownBlock = some g → b ≤ g ∧ g < w.heap.size := S.R.row.ge
/-- The hold has turned. -/
theorem HPs.opA (N : HPn W0 h m b gv) (S : HPs W0 w h m b gv kn LA LB v) (f : Fr w w' m none) : RHo w' b b v LB ∧ Blk w' gv 30 (vecA kn) ∧ Below W0.heap.size W0 w' := by
  refine ⟨⟨f.blk S.R.blk (by have := N.e; omega) (by simp), S.R.ge, f.own S.R.row (fun e => by have := (S.own m e).1; have := N.e; omega) (by cases v.ownBlock <;> simp)⟩, f.blk S.K (by have := N.e; have := N.f; omega) (by simp), f.below S.lo N.c (fun _ h => by cases h)⟩
/-- The document's hold has turned. -/
theorem opB {W0 : World} (N : HPn W0 h m b gv) (H : HO w h m LA) (R : RHo w b b v LB) (K : Blk w gv 30 (vecA kn)) (lo : Below W0.heap.size W0 w) {r : Option Nat} (hr : r = none ∨ r = v.ownBlock) (f : Fr w w' b r) : HO w' h m LA ∧ Blk w' gv 30 (vecA kn) ∧ Below W0.heap.size W0 w' := by
  have hown : ∀ g, r = some g → b ≤ g := fun g hg => by
    rcases hr with rfl | rfl
    · cases hg
    · exact (R.row.ge g hg).1
  have hne : some gv ≠ r := fun e => by
    rcases hr with rfl | rfl
    · cases e
    · exact own_blk_ne R.row K (by decide) e.symm
  exact ⟨H.fr f (by have := N.d; omega) (fun e => by have := hown h e.symm; have := N.d; omega) (by have := N.e; omega) (fun e => by have := hown m e.symm; have := N.e; omega), f.blk K (by have := N.f; omega) hne, f.below lo (by have := N.a; have := N.d; omega) (fun k hk => by have := hown k hk; have := N.a; have := N.d; omega)⟩
theorem HPs.know {k : Nat} {x : Int} (N : HPn W0 h m b gv) (S : HPs W0 w h m b gv kn LA LB v) (hk : k < 6) : HPs W0 (w.setCell ⟨gv, k, none⟩ (.int .u64 x)) h m b gv (kn.set k x) LA LB v := by
  have f : Fr w (w.setCell ⟨gv, k, none⟩ (.int .u64 x)) gv none := Fr.of_set ⟨gv, k, none⟩ rfl _
  have h1 := N.a
  have h2 := N.d
  have h3 := N.e
  have h4 := N.f
  have hK := S.K.set_ k (.int .u64 x)
  rw [vecA_set _ _ _ hk] at hK
  exact ⟨S.H.fr f (by omega) (by simp) (by omega) (by simp), ⟨f.blk S.R.blk (by omega) (by simp), S.R.ge, f.own S.R.row (own_blk_ne S.R.row S.K (by decide)) (by cases v.ownBlock <;> simp)⟩, hK, f.below S.lo (by omega) (fun _ h => by cases h), S.p, S.ok, S.le⟩
theorem hputR_perm (kn : Vec) {L M : List Ev} (p : L.Perm M) (hn : NdN L) (e : Ev) : hputR kn M e = hputR kn L e ∧ (hputL kn L e).Perm (hputL kn M e) := by
  have h1 : hputR kn M e = hputR kn L e := by unfold hputR; rw [lookE_perm hn p, p.length_eq]
  refine ⟨h1, ?_⟩
  unfold hputL
  rw [h1]
  split
  · exact p.append_right _
  · exact p
theorem hputL_ok (kn : Vec) {L : List Ev} {e : Ev} (ho : e.ok) (h : ∀ x ∈ L, x.ok) (hl : L.length ≤ 64) : (∀ x ∈ hputL kn L e, x.ok) ∧ (hputL kn L e).length ≤ 64 := by
  unfold hputL
  split
  · rename_i h0
    refine ⟨fun x hx => ?_, ?_⟩
    · rcases List.mem_append.1 hx with hx | hx
      · exact h x hx
      · obtain rfl := List.mem_singleton.1 hx; exact ho
    · have : ¬ 64 ≤ L.length := fun h64 => by
        unfold hputR at h0
        rw [if_pos h64] at h0
        split at h0
        · split at h0 <;> exact absurd h0 (by decide)
        · exact absurd h0 (by decide)
      simp; omega
  · exact ⟨h, hl⟩
theorem hnextR_perm (kn : Vec) {L M : List Ev} (p : L.Perm M) (hn : NdN L) : hnextR kn M = hnextR kn L := by
  unfold hnextR
  exact pickE_perm kn (p.filter (fun e => !lateB kn e)) (hn.sublist List.filter_sublist)
theorem next_perm (kn : Vec) {L M L' M' : List Ev} (p : L.Perm M) (hn : NdN L) (h1 : NextTo kn L L') (h2 : NextTo kn M M') : hnextR kn M = hnextR kn L ∧ L'.Perm M' ∧ ∀ x ∈ L', x ∈ L := by
  have pf := p.filter (fun e => !lateB kn e)
  have hr : hnextR kn M = hnextR kn L := by unfold hnextR; exact pickE_perm kn pf (hn.sublist List.filter_sublist)
  unfold NextTo at h1 h2
  rw [hr] at h2
  cases h0 : hnextR kn L with
  | none =>
    rw [h0] at h1 h2
    dsimp only at h1 h2
    exact ⟨by rw [hr, h0], h1.symm.trans (pf.trans h2), fun x hx => (List.mem_filter.1 (h1.mem_iff.2 hx)).1⟩
  | some e =>
    rw [h0] at h1 h2
    dsimp only at h1 h2
    exact ⟨by rw [hr, h0], (h1.symm.trans (pf.trans h2)).cons_inv, fun x hx => (List.mem_filter.1 (h1.mem_iff.2 (List.mem_cons_of_mem _ hx))).1⟩
end
set_option maxHeartbeats 40000000 in
theorem holdplays_law (n : Nat) (h255 : n ≤ 255) (acts : List Ac) (A : Option Addr) (ca : Nat) (l : List Hs) (B : Option Addr) (cb : Nat) (w : World) (hA : RowsIn w 9 acA A acts ca) (hok : ∀ u ∈ acts, u.ok) (hB : RowsIn w 18 hsA B l cb) (hoo : ∀ u ∈ l, u.ok) :
    Calls Try.prog 6 #[.int .u8 n, .slice A acts.length ca, .slice B l.length cb] w fun r w' => r = .returned (.bool true) ∧ Below w.heap.size w w' := by
  obtain ⟨bf, hbf⟩ : ∃ b, decide ((acts.length : Int) ≤ 60) = b := ⟨_, rfl⟩
  have CF := Lib.hid (fun W => few A acts.length ca W bf hbf)
  have CW := Lib.hid (fun W => works15 W)
  by_cases hs : acts.length ≤ 60 ∧ l.length ≤ 200
  rotate_left
  · have hs' : bf = false ∨ (bf = true ∧ decide ((200 : Int) < (l.length : Int)) = true) := by
      cases bf with
      | false => exact .inl rfl
      | true => exact .inr ⟨rfl, decide_eq_true (by have := of_decide_eq_true hbf; omega)⟩
    clear hs hbf hA hB hok hoo
    rcases hs' with rfl | ⟨rfl, hd⟩
    all_goals
      go_enter Try.func6, Try.ntmps6
      go_wp2_with fail
      refine (CF.out _).mono ?_
      rintro r w1 ⟨rfl, rfl⟩
      go_wp2_with fail
      refine (CW.out _).mono ?_
      rintro r w2 ⟨rfl, hb⟩
      go_wp2_with fail
      go_ret
      exact ⟨rfl, hb⟩
  obtain rfl : bf = true := by rw [← hbf]; exact decide_eq_true (by omega)
  have hd200 : decide ((200 : Int) < (l.length : Int)) = false := decide_eq_false (by omega)
  obtain ⟨m6, hm6⟩ : ∃ m, n % 6 = m := ⟨_, rfl⟩
  have hm6' : m6 < 6 := by rw [← hm6]; exact Nat.mod_lt _ (by decide)
  have ht : Int.tmod (n : Int) 6 = (m6 : Int) := by rw [← hm6]; rfl
  have hn255 : (n : Int) ≤ 255 := by omega
  have CN := Lib.hid (fun W => show Calls Try.prog 11 #[.int .i64 (1 + (m6 : Int))] W (NewWPost (1 + m6) W) from by have := wnew (1 + m6) (by omega) (by omega) W; simpa using this)
  have HI := Lib.hid (And.intro hA (And.intro hok (And.intro hB (And.intro hoo hs))))
  have hmA : ca ≤ 9223372036854775807 := hA.mx
  have hlA : acts.length ≤ ca := hA.le
  have hmB : cb ≤ 9223372036854775807 := hB.mx
  have hlB : l.length ≤ cb := hB.le
  clear hbf hm6 hA hB hok hoo hs
  go_enter Try.func6, Try.ntmps6
  go_wp2_with fail
  refine (CF.out _).mono ?_
  rintro r w1 ⟨rfl, rfl⟩
  go_wp2_with fail
  refine (CN.out _).mono ?_
  rintro r w2 ⟨gw, vL0, gs, rfl, hW2, hgl, hb2⟩
  have HZ := Lib.hid (acted_new hW2 hgl hb2)
  clear hW2 hgl hb2 CF CN hd200 ht
  go_wp2_with fail
  go_loopw [8] (fun s8 wr => ∃ (k : Nat) (vL vA : Value) (ls : List (Nat × Vec)) (all : List Ev), k ≤ acts.length ∧ s8 = .int .i64 k ∧ Acted w wr gw (1 + m6) k vL vA ls all) (fun s8 _ => acts.length - (intOf s8).toNat)
  case atStart => exact ⟨0, _, _, _, _, by omega, rfl, HZ.out⟩
  case round =>
    obtain ⟨k, vL, vA, ls, all, hk, rfl, hZ⟩ := hrel
    clear HZ
    obtain ⟨wo, rfl⟩ : ∃ wo : World, wo = wr := ⟨_, rfl⟩
    by_cases hlt : k < acts.length
    · have hd : decide ((k : Int) < (acts.length : Int)) = true := by simp; omega
      obtain ⟨x, hx⟩ : ∃ x, acts[k]? = some x := ⟨acts[k], List.getElem?_eq_getElem hlt⟩
      obtain ⟨b, o, rfl, hbl, hr⟩ := (HI.out.1.call hZ.b).at_ acA_size (by decide) hx
      have hld := run_ldR (P := Try.prog) hr Try.underlying36 rfl (size_ac x)
      have CD := Lib.hid (wdo hZ.W hZ.ok x (HI.out.2.1 x (List.mem_of_getElem? hx)) (by rw [hZ.len]; omega) (by rw [hZ.len]; omega) (by have := hZ.le; have := HI.out.2.2.2.2.1; omega))
      have HZ := Lib.hid hZ
      clear hZ hr hx hbl
      go_wp2_with fail
      refine CD.out.mono ?_
      rintro r w3 ⟨e, vL', vA', ls', all', rfl, hW', ok', hl', hle', hb'⟩
      have HZ' := Lib.hid (show Acted w w3 gw (1 + m6) (k + 1) vL' vA' ls' all' from ⟨hW', ok', hl'.trans HZ.out.len, Nat.le_trans hle' (by have := HZ.out.le; omega), HZ.out.b.trans hb'⟩)
      clear HZ CD hW' ok' hl' hle' hb' hld
      go_wp2_with fail
      go_roundw
      case rel => exact ⟨k + 1, vL', vA', ls', all', by omega, by go_num, HZ'.out⟩
      case measure => simp [intOf]; omega
    · have hd : decide ((k : Int) < (acts.length : Int)) = false := by simp; omega
      have HZ := Lib.hid hZ
      have h60 : all.length ≤ 60 := by have := hZ.le; have := HI.out.2.2.2.2.1; omega
      clear hZ
      obtain ⟨Aa, cAa, rfl, hcA, hmA'⟩ := HZ.out.W.ra.sl
      unfold maxLen at hmA'
      obtain ⟨nA, hnA⟩ : ∃ n, all.length = n := ⟨_, rfl⟩
      have CH := Lib.hid (fun W => hnew W)
      have HNA := Lib.hid hnA
      rw [hnA] at h60 hcA
      clear hk hmA hlA hnA
      go_wp2_with fail
      refine (CH.out _).mono ?_
      rintro r w1 ⟨u1, rfl, h, m, rfl, H1, gh, gm, hb1⟩
      have lh := H1.blk.lt
      have lm := H1.map.lt
      clear CH hd hlt
      go_upto_region 12 with fail
      have hb2 : Below w1.heap.size w1 ((w1.alloc (.cells #[.slice none 0 0] 65)).alloc (.cells (vecA Vec.zero) 30)) := ((Below.refl _ _).alloc (Nat.le_refl _) _).alloc (by simp) _
      have S0 := Lib.hid (show HPs wo ((w1.alloc (.cells #[.slice none 0 0] 65)).alloc (.cells (vecA Vec.zero) 30)) h m w1.heap.size (w1.heap.size + 1) Vec.zero [] [] (.slice none 0 0) from ⟨H1.call hb2, ⟨(Blk.new _ _ _).alloc _, Nat.le_refl _, Row.nil⟩, Blk.new_at (by simp) rfl, hb1.trans (hb2.mono hb1.size), List.Perm.refl _, by simp, by simp⟩)
      have N := Lib.hid (show HPn wo h m w1.heap.size (w1.heap.size + 1) from ⟨gh, gm, lh, lm, by omega⟩)
      clear H1 hb1 hb2 gh gm lh lm
      generalize (w1.alloc _).alloc _ = w2 at S0 ⊢
      generalize hgv : w1.heap.size + 1 = gv at S0 N ⊢
      generalize w1.heap.size = b at S0 N hgv ⊢
      clear hgv
      go_loopg [12] l.length (fun g s12 wr => ∃ (i : Nat) (kn : Vec) (LA LB : List Ev) (v : Value), i + g = l.length ∧ s12 = .int .i64 i ∧ HPs wo wr h m b gv kn LA LB v ∧ Hid (∀ r, r < 6 → 0 ≤ kn.get r ∧ kn.get r ≤ 2 * i))
      case atStart => exact ⟨0, Vec.zero, [], [], _, by omega, rfl, S0.out, Lib.hid (fun r _ => by rw [Vec.get_zero]; omega)⟩
      case round =>
        obtain ⟨i, kn, LA, LB, v, hg, rfl, S, HV⟩ := hrel
        clear S0
        obtain ⟨wi, rfl⟩ : ∃ wi : World, wi = wr := ⟨_, rfl⟩
        by_cases hi : i < l.length
        · have hdi : decide (i < l.length) = true := decide_eq_true hi
          have hl200 : l.length ≤ 200 := HI.out.2.2.2.2.2
          obtain ⟨x, hx⟩ : ∃ x, l[i]? = some x := ⟨_, List.getElem?_eq_getElem hi⟩
          obtain ⟨bs, os, rfl, hbs, hrg⟩ := (HI.out.2.2.1.call (HZ.out.b.trans (S.lo.mono HZ.out.b.size))).at_ hsA_size (by decide) hx
          have hxok := HI.out.2.2.2.1 x (List.mem_of_getElem? hx)
          have hbw : bs < w.heap.size := by
            obtain ⟨b9, o9, e9, h9, -⟩ := HI.out.2.2.1.at_ hsA_size (by decide) hx
            obtain ⟨rfl, rfl⟩ : bs = b9 ∧ os = o9 := by simpa using e9
            exact h9
          have e0 : wi.cell? ⟨bs, os + i * 18 + 3, none⟩ = some (.int .i64 x.e.o) := hrg 3 _ rfl
          have e1 : wi.cell? ⟨bs, os + i * 18 + 4, none⟩ = some (.int .u64 x.e.s) := hrg 4 _ rfl
          have e2 : wi.cell? ⟨bs, os + i * 18 + 5, none⟩ = some (.int .u64 x.e.d.v0) := hrg 5 _ rfl
          have e3 : wi.cell? ⟨bs, os + i * 18 + 6, none⟩ = some (.int .u64 x.e.d.v1) := hrg 6 _ rfl
          have e4 : wi.cell? ⟨bs, os + i * 18 + 7, none⟩ = some (.int .u64 x.e.d.v2) := hrg 7 _ rfl
          have e5 : wi.cell? ⟨bs, os + i * 18 + 8, none⟩ = some (.int .u64 x.e.d.v3) := hrg 8 _ rfl
          have e6 : wi.cell? ⟨bs, os + i * 18 + 9, none⟩ = some (.int .u64 x.e.d.v4) := hrg 9 _ rfl
          have e7 : wi.cell? ⟨bs, os + i * 18 + 10, none⟩ = some (.int .u64 x.e.d.v5) := hrg 10 _ rfl
          have e8 : wi.cell? ⟨bs, os + i * 18 + 11, none⟩ = some (.int .u8 x.e.k) := hrg 11 _ rfl
          have e9 : wi.cell? ⟨bs, os + i * 18 + 12, none⟩ = some (.int .u64 x.e.n) := hrg 12 _ rfl
          have e10 : wi.cell? ⟨bs, os + i * 18 + 13, none⟩ = some (.int .i64 x.e.t) := hrg 13 _ rfl
          have e11 : wi.cell? ⟨bs, os + i * 18 + 14, none⟩ = some (.int .i64 x.e.a) := hrg 14 _ rfl
          have e12 : wi.cell? ⟨bs, os + i * 18 + 15, none⟩ = some (.int .u64 x.e.r) := hrg 15 _ rfl
          have e13 : wi.cell? ⟨bs, os + i * 18 + 16, none⟩ = some (.int .u64 x.e.f) := hrg 16 _ rfl
          have HS := Lib.hid S
          have HX := Lib.hid (And.intro hx (And.intro hxok hrg))
          have HG := Lib.hid hg
          clear hx hxok hrg S hg
          go_upto_region 15 with fail
          have S1 := HS.out.call ((Below.refl wi.heap.size wi).alloc (Nat.le_refl _) (.cells (evA x.e) 32))
          have bX : Blk (wi.alloc (.cells (evA x.e) 32)) wi.heap.size 32 (evA x.e) := Blk.new _ _ _
          have hown : ∀ g, v.ownBlock = some g → g < wi.heap.size := fun g hg => (HS.out.own g hg).2
          have hgx : gv < wi.heap.size := HS.out.K.lt
          have Z1 := Lib.hid (And.intro S1 (And.intro bX hown))
          clear e0 e1 e2 e3 e4 e5 e6 e7 e8 e9 e10 e11 e12 e13 S1 bX hown HS
          generalize wi.alloc _ = wa at Z1 ⊢
          generalize wi.heap.size = gx at Z1 hgx ⊢
          -- the event
          have h60i : (nA : Int) ≤ 60 := by omega
          go_cut [68] (fun s68 wx => ∃ t : Bool, s68 = .bool t ∧ (t = true → 0 < nA) ∧ HPs wo wx h m b gv kn LA LB v ∧ Blk wx gx 32 (evA x.e))
          case first =>
            obtain ⟨qx, -⟩ := Z1.out.2.1.rules
            have lx := Z1.out.2.1.lt
            have hW := HZ.out.W.call Z1.out.1.lo
            rw [HNA.out] at hW
            obtain ⟨q, -⟩ := hW.blk.rules
            have lg := hW.blk.lt
            clear hW
            obtain ⟨te, hte⟩ : ∃ t, decide (x.e = Ev.zero) = t := ⟨_, rfl⟩
            rcases (show te = false ∨ te = true from by cases te <;> simp) with rfl | rfl
            · go_wp2_with fail
              go_meet
              exact ⟨false, rfl, fun h => (by cases h), Z1.out.1, Z1.out.2.1⟩
            · by_cases hpos : 0 < nA
              · go_wp2_with fail
                go_meet
                exact ⟨true, rfl, fun _ => hpos, Z1.out.1, Z1.out.2.1⟩
              · have hp2 : decide (0 < nA) = false := decide_eq_false hpos
                go_wp2_with fail
                go_meet
                exact ⟨false, rfl, fun h => (by cases h), Z1.out.1, Z1.out.2.1⟩
          case rest =>
            obtain ⟨t, rfl, htp, S2, bX⟩ := hcut
            have Z2 := Lib.hid (And.intro S2 (And.intro bX Z1.out.2.2))
            clear S2 bX Z1
            obtain ⟨wa2, rfl⟩ : ∃ w : World, w = wc := ⟨_, rfl⟩
            go_upto_if 68 with fail
            go_cut [12] (fun s12 wx => s12 = .int .i64 i ∧ ∃ y : Ev, y.ok ∧ HPs wo wx h m b gv kn LA LB v ∧ Blk wx gx 32 (evA y))
            case first =>
              rcases (show t = false ∨ t = true from by cases t <;> simp) with rfl | rfl
              · go_wp2_with fail
                go_meet
                exact ⟨rfl, x.e, HX.out.2.1.e, Z2.out.1, Z2.out.2.1⟩
              · have hpos := htp rfl
                have cp : wa2.cell? ⟨bs, os + i * 18 + 17, none⟩ = some (.int .u8 x.p) := ((HZ.out.b.trans (Z2.out.1.lo.mono HZ.out.b.size)).cell (p := ⟨bs, _, none⟩) hbw).trans (((HZ.out.b.trans (Z2.out.1.lo.mono HZ.out.b.size)).cell (p := ⟨bs, _, none⟩) hbw).symm.trans (by
                  obtain ⟨b9, o9, e9, h9, h10⟩ := (HI.out.2.2.1.call (HZ.out.b.trans (Z2.out.1.lo.mono HZ.out.b.size))).at_ hsA_size (by decide) HX.out.1
                  obtain ⟨rfl, rfl⟩ : bs = b9 ∧ os = o9 := by simpa using e9
                  exact h10 17 _ rfl))
                have hp255 : (x.p : Int) ≤ 255 := by have := HX.out.2.1.p; omega
                obtain ⟨r2, hr2⟩ : ∃ r, x.p % nA = r := ⟨_, rfl⟩
                have hr2l : r2 < nA := by rw [← hr2]; exact Nat.mod_lt _ hpos
                have htr : Int.tmod (x.p : Int) (nA : Int) = (r2 : Int) := by rw [← hr2]; rfl
                have hr2l2 : r2 < all.length := by rw [HNA.out]; exact hr2l
                obtain ⟨x1, hx1⟩ : ∃ x, all[r2]? = some x := ⟨all[r2], List.getElem?_eq_getElem hr2l2⟩
                have hW := HZ.out.W.call Z2.out.1.lo
                rw [HNA.out] at hW
                obtain ⟨q, -⟩ := hW.blk.rules
                have lg := hW.blk.lt
                obtain ⟨g2, cap2, e0, h1, h2, h3, lg2⟩ := hW.ra.sl_pos (by rw [HNA.out]; exact hpos)
                rw [HNA.out] at e0
                injection e0 with e1 e2 e3
                subst e1; subst e3
                obtain ⟨b0, o0, hA0, hbl2, hcells⟩ := (hW.ra.erows rfl).at_ hx1
                obtain ⟨rfl, rfl⟩ : g2 = b0 ∧ 0 = o0 := by simpa using hA0
                rw [Nat.zero_add] at hcells
                obtain ⟨c0, c1, c2, c3, c4, c5, c6, c7, c8, c9, c10, c11, c12, c13⟩ := hcells
                have hg2 : g2 < wo.heap.size := by have := (HZ.out.W.ra.ge g2 rfl).2; exact this
                have hgw : gw < wo.heap.size := HZ.out.W.blk.lt
                obtain ⟨qx, fx⟩ := Z2.out.2.1.rules
                have lx := Z2.out.2.1.lt
                have T9 := ((Trk.bare wa2).add Z2.out.2.1).setEv (Nat.zero_le _) trivial x1
                have F9 := setEv14_fr wa2 gx x1
                have NN := N.out
                have S9 : HPs wo (setEv14 wa2 gx x1) h m b gv kn LA LB v := by
                  have := NN.d; have := NN.e; have := NN.f; have := NN.a
                  exact ⟨Z2.out.1.H.fr F9 (by omega) (by simp) (by omega) (by simp), ⟨F9.blk Z2.out.1.R.blk (by omega) (by simp), Z2.out.1.R.ge, F9.own Z2.out.1.R.row (fun e => by have := Z2.out.2.2 _ e; omega) (by cases v.ownBlock <;> simp)⟩, F9.blk Z2.out.1.K (by omega) (by simp), F9.below Z2.out.1.lo (by omega) (fun _ h => by cases h), Z2.out.1.p, Z2.out.1.ok, Z2.out.1.le⟩
                have Y := Lib.hid (And.intro (HZ.out.ok.made.may (List.mem_of_getElem? hx1)).1 (And.intro (T9.blk _ _ _ List.mem_cons_self) S9))
                have ng1 : gw ≠ gx := by have := NN.a; have := NN.d; have := NN.f; omega
                have ng2 : g2 ≠ gx := by have := NN.a; have := NN.d; have := NN.f; omega
                clear hr2 hx1 hA0 hW T9 S9 F9 hr2l2 htp h1 h2 h3 e2 NN
                go_upto_region 16 with fail
                go_region
                go_wp2_with fail
                go_meet
                exact ⟨rfl, x1, Y.out.1, Y.out.2.2.call (Below.refl _ _).drew, Y.out.2.1.drew⟩
            case rest =>
              obtain ⟨rfl, y, hyok, S3, bY⟩ := hcut
              have CS := Lib.hid (show ∀ wx, Below wo.heap.size wo wx → wx.cell? ⟨bs, os + i * 18, none⟩ = some (.bool x.n) ∧ wx.cell? ⟨bs, os + i * 18 + 1, none⟩ = some (.bool x.k) ∧ wx.cell? ⟨bs, os + i * 18 + 2, none⟩ = some (.bool x.s) ∧ wx.cell? ⟨bs, os + i * 18 + 17, none⟩ = some (.int .u8 x.p) from fun wx hb => by
                obtain ⟨b9, o9, e9, h9, h10⟩ := (HI.out.2.2.1.call (HZ.out.b.trans (hb.mono HZ.out.b.size))).at_ hsA_size (by decide) HX.out.1
                obtain ⟨rfl, rfl⟩ : bs = b9 ∧ os = o9 := by simpa using e9
                exact ⟨h10 0 _ rfl, h10 1 _ rfl, h10 2 _ rfl, h10 17 _ rfl⟩)
              have Z3 := Lib.hid (And.intro S3 (And.intro bY hyok))
              have hp255 : (x.p : Int) ≤ 255 := by have := HX.out.2.1.p; omega
              have hgxv : gx ≠ gv := by omega
              have HOX := Lib.hid Z2.out.2.2
              clear S3 bY Z2 hyok htp
              obtain ⟨wb, rfl⟩ : ∃ w : World, w = wc := ⟨_, rfl⟩
              obtain ⟨sn, hsn⟩ : ∃ t, x.n = t := ⟨_, rfl⟩
              obtain ⟨sk, hsk⟩ : ∃ t, x.k = t := ⟨_, rfl⟩
              obtain ⟨ss, hss⟩ : ∃ t, x.s = t := ⟨_, rfl⟩
              rw [hsn, hsk, hss] at CS
              clear hsn hsk hss
              have cS := (CS.out wb Z3.out.1.lo).2.2.1
              go_upto_if 91 with fail
              go_cut [12] (fun s12 wx => s12 = .int .i64 i ∧ ∃ kn2 : Vec, HPs wo wx h m b gv kn2 LA LB v ∧ Blk wx gx 32 (evA y) ∧ ∀ r, r < 6 → 0 ≤ kn2.get r ∧ kn2.get r ≤ 2 * i + 1)
              case first =>
                rcases (show ss = false ∨ ss = true from by cases ss <;> simp) with rfl | rfl
                · go_wp2_with fail
                  go_meet
                  exact ⟨rfl, kn, Z3.out.1, Z3.out.2.1, fun r hr => by have := HV.out r hr; omega⟩
                · have cP := (CS.out wb Z3.out.1.lo).2.2.2
                  obtain ⟨p6, hp6⟩ : ∃ r, x.p % 6 = r := ⟨_, rfl⟩
                  have hp6l : p6 < 6 := by rw [← hp6]; exact Nat.mod_lt _ (by decide)
                  have htr : Int.tmod (x.p : Int) 6 = (p6 : Int) := by rw [← hp6]; rfl
                  obtain ⟨qk, fk⟩ := Z3.out.1.K.rules
                  have lk := Z3.out.1.K.lt
                  have ck := vecA_get kn p6 hp6l
                  have p0 : (0 : Int) ≤ (p6 : Int) := by omega
                  have p60 : (p6 : Int) < 6 := by omega
                  have hb0 := (HV.out p6 hp6l).1
                  have hb1 : kn.get p6 ≤ 1000 := by have := (HV.out p6 hp6l).2; omega
                  have S4 := Z3.out.1.know (x := kn.get p6 + 1) N.out hp6l
                  have B4 := Z3.out.2.1.far (p := ⟨gv, p6, none⟩) (show gx ≠ gv from hgxv) (.int .u64 (kn.get p6 + 1))
                  have Y := Lib.hid (And.intro S4 (And.intro B4 (show ∀ r, r < 6 → 0 ≤ (kn.set p6 (kn.get p6 + 1)).get r ∧ (kn.set p6 (kn.get p6 + 1)).get r ≤ 2 * i + 1 from fun r hr => by
                    have h1 := HV.out r hr
                    rw [Vec.get_set _ _ _ _ hp6l hr]
                    split
                    · rename_i e; subst e; omega
                    · omega)))
                  clear hp6 S4 B4
                  go_wp2_with fail
                  go_meet
                  exact ⟨rfl, _, Y.out.1, Y.out.2.1, Y.out.2.2⟩
              case rest =>
                obtain ⟨rfl, kn2, S5, bY5, hv2⟩ := hcut
                have Z5 := Lib.hid (And.intro S5 (And.intro bY5 Z3.out.2.2))
                have HV2 := Lib.hid hv2
                clear S5 bY5 hv2 Z3 cS HV
                obtain ⟨wd, rfl⟩ : ∃ w : World, w = wc := ⟨_, rfl⟩
                have cN := (CS.out wd Z5.out.1.lo).1
                have hkv : ∀ k, k < 6 → 0 ≤ kn2.get k ∧ kn2.get k ≤ 1000000 := fun k hk => ⟨(HV2.out k hk).1, by have := (HV2.out k hk).2; omega⟩
                have hkok : kn2.ok := fun k hk => ⟨(HV2.out k hk).1, by have := (HV2.out k hk).2; omega⟩
                have HKV := Lib.hid (And.intro hkv hkok)
                clear hkv hkok
                go_upto_if 107 with fail
                go_cut [12] (fun s12 wx => s12 = .int .i64 i ∧ ∃ (kn3 : Vec) (LA2 LB2 : List Ev) (v2 : Value), HPs wo wx h m b gv kn3 LA2 LB2 v2 ∧ ∀ r, r < 6 → 0 ≤ kn3.get r ∧ kn3.get r ≤ 2 * i + 2)
                case first =>
                  rcases (show sn = true ∨ sn = false from by cases sn <;> simp) with rfl | rfl
                  · as_aux_lemma =>
                    obtain ⟨qk, -⟩ := Z5.out.1.K.rules
                    have lk := Z5.out.1.K.lt
                    obtain ⟨e0, he0⟩ : ∃ e, (hnextR kn2 LA).getD Ev.zero = e := ⟨_, rfl⟩
                    obtain ⟨t, ht⟩ : ∃ t, (hnextR kn2 LA).isSome = t := ⟨_, rfl⟩
                    have hval : hnextV (hnextR kn2 LA) = .tuple #[.agg (evA e0), .bool t] := by rw [← he0, ← ht]; rfl
                    have hready : t = true → readyB kn2 e0 = true := fun h => by
                      cases hr : hnextR kn2 LA with
                      | none => rw [hr] at ht; rw [← ht] at h; cases h
                      | some e => rw [hr] at he0; have := (pickE_mem hr).2; rw [← he0]; exact this
                    have hrB : hnextR kn2 LB = hnextR kn2 LA := hnextR_perm kn2 Z5.out.1.p Z5.out.1.H.map.ndn
                    have CX := Lib.hid (show Calls Try.prog 16 #[.pointer (some ⟨h, 0, none⟩), .agg (vecA kn2)] wd fun r w' => r = .returned (.tuple #[.agg (evA e0), .bool t]) ∧ NextPost wd w' h m kn2 LA from (hnext Z5.out.1.H kn2 HKV.out.1 Z5.out.1.ok).mono fun r w' ⟨h1, h2⟩ => ⟨by rw [h1, hval], h2⟩)
                    have HR := Lib.hid (And.intro hready (And.intro hval hrB))
                    clear he0 ht hval hready hrB
                    go_wp2_with fail
                    refine CX.out.mono ?_
                    rintro r w5 ⟨rfl, LA3, H5, F5, hNA⟩
                    obtain ⟨R5, K5, lo5⟩ := Z5.out.1.opA N.out F5
                    have Y5 := Lib.hid (And.intro H5 (And.intro R5 (And.intro K5 (And.intro lo5 hNA))))
                    clear CX H5 F5 R5 K5 lo5 hNA qk lk
                    go_upto_region 21 with fail
                    have hb6 : Below w5.heap.size w5 (w5.alloc (.cells (evA e0) 32)) := (Below.refl _ _).alloc (Nat.le_refl _) _
                    have R6 := Y5.out.2.1.call hb6
                    have CY := Lib.hid (show Calls Try.prog 17 #[.pointer (some ⟨b, 0, none⟩), .agg (vecA kn2)] (w5.alloc (.cells (evA e0) 32)) fun r w' => r = .returned (.tuple #[.agg (evA e0), .bool t]) ∧ ∃ v' L', RHo w' b b v' L' ∧ NextTo kn2 LB L' ∧ Fr (w5.alloc (.cells (evA e0) 32)) w' b none from
                      (rhnext R6 kn2 HKV.out.2 (by rw [← Z5.out.1.p.length_eq]; have := Z5.out.1.le; omega) (Z5.out.1.H.map.ndn.perm Z5.out.1.p) (fun e he => Z5.out.1.ok e (Z5.out.1.p.mem_iff.2 he))).mono fun r w' ⟨h1, h2⟩ => ⟨by rw [h1, HR.out.2.2, HR.out.2.1], h2⟩)
                    have Y6 := Lib.hid (And.intro (Y5.out.1.call hb6) (And.intro R6 (And.intro (Y5.out.2.2.1.call hb6) (And.intro (Y5.out.2.2.2.1.trans (hb6.mono Y5.out.2.2.2.1.size)) (And.intro Y5.out.2.2.2.2 (Blk.new w5 32 (evA e0)))))))
                    have ngy : gv < w5.heap.size := Y5.out.2.2.1.lt
                    clear hb6 R6 Y5
                    generalize w5.alloc _ = w6 at CY Y6 ⊢
                    generalize w5.heap.size = gy at Y6 ngy ⊢
                    obtain ⟨qk, -⟩ := Y6.out.2.2.1.rules
                    have lk := Y6.out.2.2.1.lt
                    go_wp2_with fail
                    refine CY.out.mono ?_
                    rintro r w7 ⟨rfl, v3, LB3, R7, hNB, F7⟩
                    have NN := N.out
                    obtain ⟨H7, K7, lo7⟩ := opB NN Y6.out.1 Y6.out.2.1 Y6.out.2.2.1 Y6.out.2.2.2.1 (.inl rfl) F7
                    have bY7 := F7.blk Y6.out.2.2.2.2.2 (by have := NN.f; omega) (by simp)
                    obtain ⟨-, hp3, hsub⟩ := next_perm kn2 Z5.out.1.p Z5.out.1.H.map.ndn Y6.out.2.2.2.2.1 hNB
                    have S7 : HPs wo w7 h m b gv kn2 LA3 LB3 v3 := ⟨H7, R7, K7, lo7, hp3, fun x hx => Z5.out.1.ok x (hsub x hx), by
                      have := nodup_length (L := LA3) LA ((H7.map.ndn).imp fun {x y} h e => h ⟨by rw [e], by rw [e]⟩) hsub
                      have := Z5.out.1.le
                      omega⟩
                    clear CY H7 K7 lo7 hp3 hsub R7 hNB F7 qk lk Y6
                    go_upto_region 22 with fail
                    have hb8 : Below w7.heap.size w7 (w7.alloc (.cells (evA e0) 32)) := (Below.refl _ _).alloc (Nat.le_refl _) _
                    have ngz : gv < w7.heap.size := S7.K.lt
                    have Y8 := Lib.hid (And.intro (S7.call hb8) (And.intro (bY7.call hb8) (Blk.new w7 32 (evA e0))))
                    clear S7 bY7 hb8 NN
                    generalize w7.alloc _ = w8 at Y8 ⊢
                    generalize w7.heap.size = gz at Y8 ngz ⊢
                    obtain ⟨qy, -⟩ := Y8.out.2.1.rules
                    obtain ⟨qz, -⟩ := Y8.out.2.2.rules
                    have ly := Y8.out.2.1.lt
                    have lz := Y8.out.2.2.lt
                    have hee : decide (e0 = e0) = true := by simp
                    have cK := (CS.out w8 Y8.out.1.lo).2.1
                    clear cN
                    rcases (show t = false ∨ t = true from by cases t <;> simp) with rfl | rfl
                    · go_wp2_with fail
                      go_meet
                      exact ⟨rfl, kn2, LA3, LB3, v3, Y8.out.1, fun r hr => by have := HV2.out r hr; omega⟩
                    · rcases (show sk = false ∨ sk = true from by cases sk <;> simp) with rfl | rfl
                      · go_wp2_with fail
                        go_meet
                        exact ⟨rfl, kn2, LA3, LB3, v3, Y8.out.1, fun r hr => by have := HV2.out r hr; omega⟩
                      · obtain ⟨k4, hk4, ho4, -, -, -, -, -⟩ := ready_facts (HR.out.1 rfl)
                        obtain ⟨yo, ys, yd, yk, yn, yt, ya, yr, yf⟩ := e0
                        obtain rfl : yo = (k4 : Int) + 1 := ho4
                        obtain ⟨qk, fk⟩ := Y8.out.1.K.rules
                        have lk := Y8.out.1.K.lt
                        have ck := vecA_get kn2 k4 hk4
                        have k0 : (0 : Int) ≤ (k4 : Int) := by omega
                        have k6 : (k4 : Int) < 6 := by omega
                        have hb0 := (HV2.out k4 hk4).1
                        have hb1 : kn2.get k4 ≤ 1000 := by have := (HV2.out k4 hk4).2; omega
                        have S9 := Lib.hid (Y8.out.1.know (x := kn2.get k4 + 1) N.out hk4)
                        go_wp2_with fail
                        go_meet
                        exact ⟨rfl, _, LA3, LB3, v3, S9.out, fun r hr => by
                          have h1 := HV2.out r hr
                          rw [Vec.get_set _ _ _ _ hk4 hr]
                          split
                          · rename_i e; subst e; omega
                          · omega⟩
                  · as_aux_lemma =>
                    obtain ⟨qk, -⟩ := Z5.out.1.K.rules
                    have lk := Z5.out.1.K.lt
                    obtain ⟨qx, -⟩ := Z5.out.2.1.rules
                    have lx := Z5.out.2.1.lt
                    obtain ⟨nr, hnr⟩ : ∃ n, hputR kn2 LA y = n := ⟨_, rfl⟩
                    obtain ⟨hrB, hpL⟩ := hputR_perm kn2 Z5.out.1.p Z5.out.1.H.map.ndn y
                    have hlB : LB.length ≤ 1000 := by rw [← Z5.out.1.p.length_eq]; have := Z5.out.1.le; omega
                    have TA := Lib.hid (fun (W : World) (H : HO W h m LA) => hput_is kn2 y Z5.out.2.2 LA (hputL kn2 LA y) nr hnr rfl W h m H)
                    have TB := Lib.hid (fun (W : World) (R : RHo W b b v LB) => show Calls Try.prog 18 #[.pointer (some ⟨b, 0, none⟩), .agg (vecA kn2), .agg (evA y)] W (RPutPost b b v nr (hputL kn2 LB y) W) from by have := rhput R kn2 y Z5.out.2.2 hlB; rw [hrB, hnr] at this; exact this)
                    have HPL := Lib.hid (And.intro hpL (hputL_ok kn2 Z5.out.2.2 Z5.out.1.ok Z5.out.1.le))
                    have S3 := Lib.hid (And.intro (Z5.out.1.call (w' := wd.drew) (Below.refl _ _).drew) Z5.out.2.1.drew)
                    clear hnr hrB hpL hlB
                    go_wp2_with fail
                    go_region_held3 (fun w' => (∀ j, w'.cell? ⟨gv, j, none⟩ = (vecA kn2)[j]?) ∧ (∀ j, w'.cell? ⟨gx, j, none⟩ = (evA y)[j]?))
                      (first | exact ⟨qk9, qx9⟩ | exact ⟨qk4, qx4⟩ | exact ⟨S3.out.1.K.rules.1, S3.out.2.rules.1⟩)
                      (first
                      | (go_at_call 14
                         refine (TA.out _ S3.out.1.H).mono ?_
                         rintro e w4 ⟨rfl, H4, F4⟩
                         obtain ⟨R4, K4, lo4⟩ := S3.out.1.opA N.out F4
                         have bX4 := F4.blk S3.out.2 (by have := N.out.e; have := N.out.f; omega) (by simp)
                         have Y4 := Lib.hid (And.intro H4 (And.intro R4 (And.intro K4 (And.intro lo4 bX4))))
                         obtain ⟨qk4, -⟩ := K4.rules
                         obtain ⟨qx4, -⟩ := bX4.rules
                         clear H4 R4 K4 lo4 F4 bX4)
                      | (go_at_call 18
                         refine (TB.out _ Y4.out.2.1).mono ?_
                         rintro e w9 ⟨rfl, v9, R9, F9⟩
                         have hoX : some gx ≠ v.ownBlock := fun e => by have := HOX.out gx e.symm; omega
                         have bX9 := F9.blk Y4.out.2.2.2.2 (by have := N.out.f; omega) hoX
                         obtain ⟨H9, K9, lo9⟩ := opB N.out Y4.out.1 Y4.out.2.1 Y4.out.2.2.1 Y4.out.2.2.2.1 (.inr rfl) F9
                         have S9 := Lib.hid (show HPs wo w9 h m b gv kn2 (hputL kn2 LA y) (hputL kn2 LB y) v9 from ⟨H9, R9, K9, lo9, HPL.out.1, HPL.out.2.1, HPL.out.2.2⟩)
                         obtain ⟨qk9, -⟩ := K9.rules
                         obtain ⟨qx9, -⟩ := bX9.rules
                         clear H9 R9 K9 lo9 F9 bX9))
                    all_goals
                      go_wp2_with fail
                      go_meet
                      exact ⟨rfl, kn2, _, _, _, S9.out, fun r hr => by have := HV2.out r hr; omega⟩
                case rest =>
                  obtain ⟨rfl, kn3, LA2, LB2, v2, S6, hv3⟩ := hcut
                  obtain ⟨we, rfl⟩ : ∃ w : World, w = wc := ⟨_, rfl⟩
                  obtain ⟨A2, c2, rfl, hc2, hm2⟩ := S6.R.row.sl
                  have CL := Lib.hid (fun y : Later we => show Calls Try.prog 15 #[.pointer (some ⟨h, 0, none⟩)] y.w fun r w' => r = .returned (.int .i64 LA2.length) ∧ Below y.w.heap.size y.w w' from (hlen (S6.H.call y.below)).mono fun r w' ⟨h1, h2⟩ => ⟨h1, by rw [← h2]; exact Below.refl _ _⟩)
                  obtain ⟨qb, -⟩ := S6.R.blk.rules
                  have lb := S6.R.blk.lt
                  have hle := S6.p.length_eq
                  have Z6 := Lib.hid (And.intro S6 hv3)
                  obtain ⟨nl, hnl⟩ : ∃ n, LA2.length = n := ⟨_, rfl⟩
                  rw [← hle, hnl] at qb
                  rw [hnl] at CL
                  clear S6 hv3 hle hnl Z5 cN
                  go_upto_region 28 with fail
                  refine wp_region_later (by kernel_rfl) (by kernel_rfl) ?_
                  repeat (go_big_quiet_step ((go_at_call 15; with_reducible exact Calls.later (CL.out _))))
                  refine wpQuiet_nil ?_
                  rintro w9 ⟨y9, rfl⟩
                  have S9 := Z6.out.1.call y9.below
                  have Z9 := Lib.hid S9
                  clear S9 CL qb lb
                  generalize y9.w = w9 at Z9 ⊢
                  go_wp2_with fail
                  have hg := HG.out
                  go_roundg (l.length - (i + 1))
                  case measure => omega
                  case rel => exact ⟨i + 1, kn3, LA2, LB2, _, by omega, by go_num, Z9.out, Lib.hid (fun r hr => by have := Z6.out.2 r hr; omega)⟩
        · have hdi : decide (i < l.length) = false := decide_eq_false hi
          have HB := Lib.hid (HZ.out.b.trans (S.lo.mono HZ.out.b.size))
          clear S hg
          go_wp2_with fail
          refine (CW.out _).mono ?_
          rintro r w7 ⟨rfl, hb7⟩
          go_wp2_with fail
          go_ret
          exact ⟨rfl, HB.out.trans (hb7.mono HB.out.size)⟩
end Go.Proofs.Ytgbbhkdaalnchaa
