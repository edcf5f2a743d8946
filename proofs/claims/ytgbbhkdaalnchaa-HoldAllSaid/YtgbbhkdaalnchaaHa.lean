/-
  The walk of HoldAll.
-/
import Derived.Test.YtgbbhkdaalnchaaGT
namespace Go.Proofs.Ytgbbhkdaalnchaa
set_option linter.unusedVariables false
set_option linter.unusedSimpArgs false
open Go.RowKit Go Go.BigFrame
set_option maxRecDepth 100000

theorem cover_idx (m n t : Nat) (h : t < n) : ∃ j, m ≤ j ∧ j < m + n ∧ n - 1 - j % n = t := by
  have hm : m % n < n := Nat.mod_lt _ (by omega)
  have key : ∀ d, d < n → (m + d) % n = if m % n + d < n then m % n + d else m % n + d - n := fun d hd => by
    rw [Nat.add_mod, Nat.mod_eq_of_lt hd]
    split
    · rename_i h1; exact Nat.mod_eq_of_lt h1
    · rename_i h1
      rw [Nat.mod_eq_sub_mod (by omega), Nat.mod_eq_of_lt (by omega)]
  by_cases c : m % n ≤ n - 1 - t
  · refine ⟨m + (n - 1 - t - m % n), by omega, by omega, ?_⟩
    rw [key _ (by omega)]
    split <;> omega
  · refine ⟨m + (n - 1 - t + n - m % n), by omega, by omega, ?_⟩
    rw [key _ (by omega)]
    split <;> omega
set_option maxHeartbeats 4000000 in
theorem holdall_law (n : Nat) (h255 : n ≤ 255) (acts : List Ac) (A : Option Addr) (ca : Nat) (ord : List Nat) (B : Option Addr) (cb : Nat) (w : World) (hA : RowsIn w 9 acA A acts ca) (hok : ∀ u ∈ acts, u.ok) (hB : RowsIn w 1 u8A B ord cb) (hoo : ∀ u ∈ ord, u ≤ 255) :
    Calls Try.prog 5 #[.int .u8 n, .slice A acts.length ca, .slice B ord.length cb] w fun r w' => r = .returned (.bool true) ∧ Below w.heap.size w w' := by
  obtain ⟨bf, hbf⟩ : ∃ b, decide ((acts.length : Int) ≤ 60) = b := ⟨_, rfl⟩
  have CF := Lib.hid (fun W => few A acts.length ca W bf hbf)
  have CW := Lib.hid (fun W => works15 W)
  by_cases hs : acts.length ≤ 60 ∧ ord.length ≤ 200
  rotate_left
  · have hs' : bf = false ∨ (bf = true ∧ decide ((200 : Int) < (ord.length : Int)) = true) := by
      cases bf with
      | false => exact .inl rfl
      | true => exact .inr ⟨rfl, decide_eq_true (by have := of_decide_eq_true hbf; omega)⟩
    clear hs hbf hA hB hok hoo
    rcases hs' with rfl | ⟨rfl, hd⟩
    all_goals
      go_enter Try.func5, Try.ntmps5
      go_wp2_with fail
      refine (CF.out _).mono ?_
      rintro r w1 ⟨rfl, rfl⟩
      go_wp2_with fail
      refine (CW.out _).mono ?_
      rintro r w2 ⟨rfl, hb⟩
      go_wp2_with fail
      go_ret
      exact ⟨rfl, hb⟩
  obtain rfl : bf = true := by rw [← hbf]; exact decide_eq_true (by omega)
  have hd200 : decide ((200 : Int) < (ord.length : Int)) = false := decide_eq_false (by omega)
  obtain ⟨m6, hm6⟩ : ∃ m, n % 6 = m := ⟨_, rfl⟩
  have hm6' : m6 < 6 := by rw [← hm6]; exact Nat.mod_lt _ (by decide)
  have ht : Int.tmod (n : Int) 6 = (m6 : Int) := by rw [← hm6]; rfl
  have hn255 : (n : Int) ≤ 255 := by omega
  have CN := Lib.hid (fun W => show Calls Try.prog 11 #[.int .i64 (1 + (m6 : Int))] W (NewWPost (1 + m6) W) from by have := wnew (1 + m6) (by omega) (by omega) W; simpa using this)
  have HI := Lib.hid (And.intro hA (And.intro hok (And.intro hB (And.intro hoo hs))))
  have hmA : ca ≤ 9223372036854775807 := hA.mx
  have hlA : acts.length ≤ ca := hA.le
  have hmB : cb ≤ 9223372036854775807 := hB.mx
  have hlB : ord.length ≤ cb := hB.le
  clear hbf hm6 hA hB hok hoo hs
  go_enter Try.func5, Try.ntmps5
  go_wp2_with fail
  refine (CF.out _).mono ?_
  rintro r w1 ⟨rfl, rfl⟩
  go_wp2_with fail
  refine (CN.out _).mono ?_
  rintro r w2 ⟨gw, vL0, gs, rfl, hW2, hgl, hb2⟩
  have HZ := Lib.hid (acted_new hW2 hgl hb2)
  clear hW2 hgl hb2 CF CN hd200 ht
  go_wp2_with fail
  go_loopw [8] (fun s8 wr => ∃ (k : Nat) (vL vA : Value) (ls : List (Nat × Vec)) (all : List Ev), k ≤ acts.length ∧ s8 = .int .i64 k ∧ Acted w wr gw (1 + m6) k vL vA ls all) (fun s8 _ => acts.length - (intOf s8).toNat)
  case atStart => exact ⟨0, _, _, _, _, by omega, rfl, HZ.out⟩
  case round =>
    obtain ⟨k, vL, vA, ls, all, hk, rfl, hZ⟩ := hrel
    clear HZ
    obtain ⟨wo, rfl⟩ : ∃ wo : World, wo = wr := ⟨_, rfl⟩
    by_cases hlt : k < acts.length
    · have hd : decide ((k : Int) < (acts.length : Int)) = true := by simp; omega
      obtain ⟨x, hx⟩ : ∃ x, acts[k]? = some x := ⟨acts[k], List.getElem?_eq_getElem hlt⟩
      obtain ⟨b, o, rfl, hbl, hr⟩ := (HI.out.1.call hZ.b).at_ acA_size (by decide) hx
      have hld := run_ldR (P := Try.prog) hr Try.underlying36 rfl (size_ac x)
      have CD := Lib.hid (wdo hZ.W hZ.ok x (HI.out.2.1 x (List.mem_of_getElem? hx)) (by rw [hZ.len]; omega) (by rw [hZ.len]; omega) (by have := hZ.le; have := HI.out.2.2.2.2.1; omega))
      have HZ := Lib.hid hZ
      clear hZ hr hx hbl
      go_wp2_with fail
      refine CD.out.mono ?_
      rintro r w3 ⟨e, vL', vA', ls', all', rfl, hW', ok', hl', hle', hb'⟩
      have HZ' := Lib.hid (show Acted w w3 gw (1 + m6) (k + 1) vL' vA' ls' all' from ⟨hW', ok', hl'.trans HZ.out.len, Nat.le_trans hle' (by have := HZ.out.le; omega), HZ.out.b.trans hb'⟩)
      clear HZ CD hW' ok' hl' hle' hb' hld
      go_wp2_with fail
      go_roundw
      case rel => exact ⟨k + 1, vL', vA', ls', all', by omega, by go_num, HZ'.out⟩
      case measure => simp [intOf]; omega
    · have hd : decide ((k : Int) < (acts.length : Int)) = false := by simp; omega
      have HZ := Lib.hid hZ
      have h60 : all.length ≤ 60 := by have := hZ.le; have := HI.out.2.2.2.2.1; omega
      clear hZ
      obtain ⟨Aa, cAa, rfl, hcA, hmA'⟩ := HZ.out.W.ra.sl
      unfold maxLen at hmA'
      obtain ⟨nA, hnA⟩ : ∃ n, all.length = n := ⟨_, rfl⟩
      have CH := Lib.hid (fun W => hnew W)
      clear hk hmA hlA
      go_wp2_with fail
      refine (CH.out _).mono ?_
      rintro r w1 ⟨u1, rfl, h, m, rfl, H1, gh, gm, hb1⟩
      have lh := H1.blk.lt
      have lm := H1.map.lt
      clear CH hd hlt
      go_upto_region 12 with fail
      have S0 := Lib.hid (show HAs wo (w1.alloc (.cells (vecA Vec.zero) 30)) h m w1.heap.size all [] Vec.zero from ⟨H1.call ((Below.refl _ _).alloc (Nat.le_refl _) _), Blk.new _ _ _, hb1.alloc hb1.size _, fits_zero all, fun _ h => by cases h⟩)
      have gv0 : wo.heap.size ≤ w1.heap.size := hb1.size
      clear H1 hb1
      generalize w1.alloc _ = w2 at S0 ⊢
      generalize w1.heap.size = gv at S0 gv0 lh lm ⊢
      have nkh : gv ≠ h := by omega
      have nkm : gv ≠ m := by omega
      have HNA := Lib.hid hnA
      rw [hnA] at h60 hcA
      clear hnA
      go_loopg [11, 12] (ord.length + nA) (fun g s11 s12 wr => ∃ (i : Nat) (kn : Vec) (L : List Ev), i + g = ord.length + nA ∧ s12 = .int .i64 i ∧ s11 = .int .i64 (sumV kn) ∧ HAs wo wr h m gv all L kn ∧ Hid (∀ e ∈ L, lateB kn e = false ∧ readyB kn e = false) ∧ Hid (∀ j, ord.length ≤ j → j < i → ∀ e, all[nA - 1 - j % nA]? = some e → Cov kn L e))
      case atStart => exact ⟨0, Vec.zero, [], by omega, rfl, rfl, S0.out, Lib.hid (fun e he => by cases he), Lib.hid (fun j h1 h2 => by omega)⟩
      case round =>
        obtain ⟨i, kn, L, hg, rfl, rfl, S, HQ, HC⟩ := hrel
        clear S0
        obtain ⟨wi, rfl⟩ : ∃ wi : World, wi = wr := ⟨_, rfl⟩
        have hW := HZ.out.W.call S.b
        rw [HNA.out] at hW
        obtain ⟨q, -⟩ := hW.blk.rules
        have lg := hW.blk.lt
        have ho200 : (ord.length : Int) ≤ 200 := by have := HI.out.2.2.2.2.2; omega
        by_cases hcond : i < ord.length + nA ∧ 0 < nA
        · obtain ⟨hi, hpos⟩ := hcond
          have d1 : decide ((i : Int) < (ord.length : Int) + (nA : Int)) = true := decide_eq_true (by omega)
          have d2 : decide ((0 : Int) < (nA : Int)) = true := decide_eq_true (by omega)
          obtain ⟨r, hr⟩ : ∃ r, i % nA = r := ⟨_, rfl⟩
          have hrl : r < nA := by rw [← hr]; exact Nat.mod_lt _ hpos
          have htr : Int.tmod (i : Int) (nA : Int) = (r : Int) := by rw [← hr]; rfl
          obtain ⟨ix, hix⟩ : ∃ ix, nA - 1 - r = ix := ⟨_, rfl⟩
          have hixl : ix < nA := by omega
          have hixz : (nA : Int) - 1 - (r : Int) = (ix : Int) := by omega
          have hixl2 : ix < all.length := by rw [HNA.out]; exact hixl
          obtain ⟨x0, hx0⟩ : ∃ x, all[ix]? = some x := ⟨all[ix], List.getElem?_eq_getElem hixl2⟩
          obtain ⟨g2, cap2, e0, h1, h2, h3, lg2⟩ := hW.ra.sl_pos (by rw [HNA.out]; exact hpos)
          rw [HNA.out] at e0
          injection e0 with e1 e2 e3
          subst e1; subst e3
          obtain ⟨b0, o0, hA0, hbl, hcells⟩ := (hW.ra.erows rfl).at_ hx0
          obtain ⟨rfl, rfl⟩ : g2 = b0 ∧ 0 = o0 := by simpa using hA0
          rw [Nat.zero_add] at hcells
          obtain ⟨c0, c1, c2, c3, c4, c5, c6, c7, c8, c9, c10, c11, c12, c13⟩ := hcells
          have HIX := Lib.hid (And.intro hr (And.intro hix hx0))
          have HS := Lib.hid S
          have i260 : i ≤ 260 := by have := HI.out.2.2.2.2.2; omega
          have HG := Lib.hid hg
          clear hr hix hx0 h1 h2 h3 e2 hA0 hW S hg hixl2
          have hgx : gv < wi.heap.size := HS.out.K.lt
          have hgw : gw < wi.heap.size := lg
          go_upto_region 14 with fail
          go_cut [13] (fun s13 wx => s13 = .pointer (some ⟨wi.heap.size, 0, none⟩) ∧ HAs wo wx h m gv all L kn ∧ Blk wx wi.heap.size 32 (evA x0))
          case first =>
            go_region
            go_wp2_with fail
            go_meet
            exact ⟨rfl, HS.out.call (((Below.refl wi.heap.size wi).alloc (Nat.le_refl _) (.cells (evA x0) 32)).drew), (Blk.new _ _ _ : Blk (wi.alloc (.cells (evA x0) 32)) wi.heap.size 32 (evA x0)).drew⟩
          obtain ⟨rfl, S14, B14⟩ := hcut
          have SX := Lib.hid S14
          have BX := Lib.hid B14
          clear S14 B14 c0 c1 c2 c3 c4 c5 c6 c7 c8 c9 c10 c11 c12 c13 q lg htr hixz d1 d2 HS
          obtain ⟨wa, rfl⟩ : ∃ wa : World, wa = wc := ⟨_, rfl⟩
          generalize wi.heap.size = gx at BX hgx hgw lg2 hbl ⊢
          go_upto_if 88 with fail
          go_cut [11] (fun s11 wx => s11 = .int .i64 (sumV kn) ∧ ∃ y, y ∈ all ∧ (ord.length ≤ i → y = x0) ∧ Blk wx gx 32 (evA y) ∧ HAs wo wx h m gv all L kn)
          case first =>
            by_cases hio : i < ord.length
            · have hd : decide ((i : Int) < (ord.length : Int)) = true := decide_eq_true (by omega)
              obtain ⟨p, hp⟩ : ∃ p, ord[i]? = some p := ⟨_, List.getElem?_eq_getElem hio⟩
              have hp255 : (p : Int) ≤ 255 := by have := HI.out.2.2.2.1 p (List.mem_of_getElem? hp); omega
              obtain ⟨b, o, rfl, hbb, hrg⟩ := (HI.out.2.2.1.call (HZ.out.b.trans (SX.out.b.mono HZ.out.b.size))).at_ u8A_size (by decide) hp
              have cp : wa.cell? ⟨b, o + i, none⟩ = some (.int .u8 p) := by have := hrg 0 _ rfl; rw [show o + i * 1 + 0 = o + i from by omega] at this; exact this
              obtain ⟨r2, hr2⟩ : ∃ r, p % nA = r := ⟨_, rfl⟩
              have hr2l : r2 < nA := by rw [← hr2]; exact Nat.mod_lt _ hpos
              have htr : Int.tmod (p : Int) (nA : Int) = (r2 : Int) := by rw [← hr2]; rfl
              have hr2l2 : r2 < all.length := by rw [HNA.out]; exact hr2l
              obtain ⟨x1, hx1⟩ : ∃ x, all[r2]? = some x := ⟨all[r2], List.getElem?_eq_getElem hr2l2⟩
              have hW := HZ.out.W.call SX.out.b
              rw [HNA.out] at hW
              obtain ⟨q, -⟩ := hW.blk.rules
              have lg := hW.blk.lt
              obtain ⟨b0, o0, hA0, hbl2, hcells⟩ := (hW.ra.erows rfl).at_ hx1
              obtain ⟨rfl, rfl⟩ : g2 = b0 ∧ 0 = o0 := by simpa using hA0
              rw [Nat.zero_add] at hcells
              obtain ⟨c0, c1, c2, c3, c4, c5, c6, c7, c8, c9, c10, c11, c12, c13⟩ := hcells
              obtain ⟨qx, fx⟩ := BX.out.rules
              have lx := BX.out.lt
              have T9 := ((Trk.bare wa).add BX.out).setEv (Nat.zero_le _) trivial x1
              have S9 := SX.out.other (setEv14_fr wa gx x1) (by omega) (by omega) (by omega) (by omega)
              have Y := Lib.hid (And.intro (List.mem_of_getElem? hx1) (And.intro (T9.blk _ _ _ List.mem_cons_self) S9))
              have ng1 : gw ≠ gx := by omega
              have ng2 : g2 ≠ gx := by omega
              clear hr2 hx1 hA0 hW T9 S9 hrg hr2l2
              go_upto_region 16 with fail
              go_region
              go_wp2_with fail
              go_meet
              exact ⟨rfl, x1, Y.out.1, fun h => by omega, Y.out.2.1.drew, Y.out.2.2.call (Below.refl _ _).drew⟩
            · have hd : decide ((i : Int) < (ord.length : Int)) = false := decide_eq_false (by omega)
              go_wp2_with fail
              go_meet
              exact ⟨rfl, x0, List.mem_of_getElem? HIX.out.2.2, fun _ => rfl, BX.out, SX.out⟩
          case rest =>
            obtain ⟨rfl, y, hy, hyx, hBy, S⟩ := hcut
            have hyok := (HZ.out.ok.made.may hy).1
            obtain ⟨hcase, ha', hcov, hcovs⟩ := ha_put HZ.out.ok.made S.H.map.ndn S.a (by rw [HNA.out]; exact h60) hy
            obtain ⟨e, he⟩ : ∃ e, hputR kn L y = e := ⟨_, rfl⟩
            rw [he] at hcase
            have CP := Lib.hid (hput_is kn y hyok L (hputL kn L y) e he rfl wc h m S.H)
            obtain ⟨qk, -⟩ := S.K.rules
            obtain ⟨qy, -⟩ := hBy.rules
            have lk := S.K.lt
            have ly := hBy.lt
            have HS := Lib.hid S
            have HP := Lib.hid (And.intro ha' (And.intro hcov (And.intro hcovs (And.intro hcase hyx))))
            have gmw : wo.heap.size ≤ m := gm
            clear hyok ha' hcov hcovs hcase hy hyx hBy S he SX BX
            go_wp2_with fail
            refine CP.out.mono ?_
            rintro r w5 ⟨rfl, H5, F5⟩
            have S5 := Lib.hid (HS.out.turn F5 H5 HP.out.1 nkm gmw)
            clear CP HS H5 F5 qk qy lk ly
            go_upto_region 18 with fail
            go_cut [115] (fun s115 wx => s115 = .bool false ∧ HAs wo wx h m gv all (hputL kn L y) kn)
            case first =>
              rcases HP.out.2.2.2.1 with rfl | rfl
              all_goals
                go_wp2_with fail
                go_meet
                exact ⟨rfl, S5.out⟩
            case rest =>
              obtain ⟨rfl, S⟩ := hcut
              clear S5
              have HC1 := Lib.hid (show ∀ j, ord.length ≤ j → j < i + 1 → ∀ e, all[nA - 1 - j % nA]? = some e → Cov kn (hputL kn L y) e from fun j h1 h2 e he => by
                rcases Nat.lt_or_ge j i with hlt | hge
                · exact HP.out.2.2.1 e (HC.out j h1 hlt e he)
                · obtain rfl : j = i := by omega
                  have h3 := HIX.out.2.2
                  rw [← HIX.out.2.1, ← HIX.out.1] at h3
                  rw [h3] at he
                  injection he with he
                  rw [← he, ← HP.out.2.2.2.2 h1]
                  exact HP.out.2.1)
              generalize hputL kn L y = L1 at S HC1
              clear HC HP HIX
              have hM := HZ.out.ok.made
              have HM := Lib.hid hM
              clear hM
              go_wp2_with fail
              go_loopg [11] L1.length (fun g s11 wr => ∃ (kn2 : Vec) (L2 : List Ev), L2.length = g ∧ s11 = .int .i64 (sumV kn2) ∧ HAs wo wr h m gv all L2 kn2 ∧ Hid (∀ j, ord.length ≤ j → j < i + 1 → ∀ e, all[nA - 1 - j % nA]? = some e → Cov kn2 L2 e))
              case atStart => exact ⟨kn, L1, rfl, rfl, S, HC1⟩
              case round =>
                obtain ⟨kn2, L2, hg2, rfl, S2, HC2⟩ := hrel
                clear S HC1
                obtain ⟨wj, rfl⟩ : ∃ wj : World, wj = wr := ⟨_, rfl⟩
                have hfok := S2.a.fits.ok (by rw [HNA.out]; omega)
                have hkv : ∀ k, k < 6 → 0 ≤ kn2.get k ∧ kn2.get k ≤ 1000000 := fun k hk => ⟨(hfok.1 k hk).1, by have := hfok.2 k hk; omega⟩
                have hX := hnext S2.H kn2 hkv (fun e he => (HM.out.may (S2.a.sub e he)).1)
                obtain ⟨qk, -⟩ := S2.K.rules
                have lk := S2.K.lt
                have HG2 := Lib.hid hg2
                clear hg2
                cases hr : hnextR kn2 L2 with
                | none => -- DONE
                  have CX := Lib.hid (show Calls Try.prog 16 #[.pointer (some ⟨h, 0, none⟩), .agg (vecA kn2)] wj fun r w' => r = .returned (.tuple #[.agg (evA Ev.zero), .bool false]) ∧ NextPost wj w' h m kn2 L2 from hX.mono fun r w' ⟨h1, h2⟩ => ⟨by rw [h1, hr]; rfl, h2⟩)
                  have HS2 := Lib.hid (And.intro S2 hr)
                  clear hX hr S2 hfok hkv
                  go_wp2_with fail
                  refine CX.out.mono ?_
                  rintro r w6 ⟨rfl, L3, H6, F6, hN6⟩
                  obtain ⟨ha', hcovs, hq, -⟩ := ha_none HS2.out.1.H.map.ndn HS2.out.1.a HS2.out.2 hN6
                  have S6 := Lib.hid (HS2.out.1.turn F6 H6 ha' nkm gmw)
                  have HQ6 := Lib.hid (And.intro hq hcovs)
                  clear CX HS2 H6 F6 hN6 ha' hcovs hq qk lk
                  go_wp2_with fail
                  have hg := HG.out
                  go_roundg (ord.length + nA - (i + 1))
                  case measure => omega
                  case rel => exact ⟨i + 1, kn2, L3, by omega, by go_num, rfl, S6.out.call ((Below.refl _ _).alloc (Nat.le_refl _) _), Lib.hid HQ6.out.1, Lib.hid (fun j h1 h2 e he => HQ6.out.2 e (HC2.out j h1 h2 e he))⟩
                | some y =>
                  have CX := Lib.hid (show Calls Try.prog 16 #[.pointer (some ⟨h, 0, none⟩), .agg (vecA kn2)] wj fun r w' => r = .returned (.tuple #[.agg (evA y), .bool true]) ∧ NextPost wj w' h m kn2 L2 from hX.mono fun r w' ⟨h1, h2⟩ => ⟨by rw [h1, hr]; rfl, h2⟩)
                  have HS2 := Lib.hid (And.intro S2 (And.intro hr hfok))
                  clear hX hr S2 hfok hkv
                  go_wp2_with fail
                  refine CX.out.mono ?_
                  rintro r w6 ⟨rfl, L3, H6, F6, hN6⟩
                  obtain ⟨hy3, hrdy, k3, hk3, ho3, ha', hcovs, hlen, hsum⟩ := ha_some HM.out HS2.out.1.H.map.ndn HS2.out.1.a HS2.out.2.1 hN6
                  obtain ⟨k4, hk4, ho4, hs1, -, hs4, hvl, -⟩ := ready_facts hrdy
                  obtain rfl : k4 = k3 := by omega
                  have S6 := HS2.out.1.turn F6 H6 ⟨HS2.out.1.a.fits, ha'.sub⟩ nkm gmw
                  obtain ⟨yo, ys, yd, yk, yn, yt, ya, yr, yf⟩ := y
                  obtain rfl : yo = (k4 : Int) + 1 := ho4
                  have hb1000 := HS2.out.2.2.2 k4 hk4
                  have hb0 := (HS2.out.2.2.1 k4 hk4).1
                  have HY := Lib.hid (And.intro ha' (And.intro hcovs (And.intro hlen (And.intro hsum (vlessB_iff.1 hvl)))))
                  have hne : (ys != kn2.get k4 + 1) = false := by dsimp only at hs4; simp; omega
                  clear CX HS2 H6 F6 hN6 hy3 hrdy hk3 ho3 ha' hcovs hlen hsum hs1 hs4 hvl qk lk
                  go_upto_region 22 with fail
                  have S7 := S6.call ((Below.refl w6.heap.size w6).alloc (Nat.le_refl _) (.cells (evA (⟨(k4 : Int) + 1, ys, yd, yk, yn, yt, ya, yr, yf⟩ : Ev)) 32))
                  have bY : Blk (w6.alloc (.cells (evA (⟨(k4 : Int) + 1, ys, yd, yk, yn, yt, ya, yr, yf⟩ : Ev)) 32)) w6.heap.size 32 (evA (⟨(k4 : Int) + 1, ys, yd, yk, yn, yt, ya, yr, yf⟩ : Ev)) := Blk.new _ _ _
                  have ngy : gv < w6.heap.size := S6.K.lt
                  clear S6
                  generalize w6.alloc _ = w7 at S7 bY ⊢
                  generalize w6.heap.size = gy at bY ngy ⊢
                  obtain ⟨qk, -⟩ := S7.K.rules
                  obtain ⟨qy, -⟩ := bY.rules
                  have ck := vecA_get kn2 k4 hk4
                  have k0 : (0 : Int) ≤ (k4 : Int) := by omega
                  have k6 : (k4 : Int) < 6 := by omega
                  have d3 : decide ((k4 : Int) + 1 < 1) = false := decide_eq_false (by omega)
                  have d4 : decide ((6 : Int) < (k4 : Int) + 1) = false := decide_eq_false (by omega)
                  have Z7 := Lib.hid (And.intro S7 bY)
                  clear S7 bY
                  go_quiet (fail)
                  have hbq : Below w7.heap.size w7 (w7.drewN nq) := below_drewN (Below.refl _ _) nq
                  have S8 := Z7.out.1.call hbq
                  have b8 := Z7.out.2.call hbq
                  have Z8 := Lib.hid (And.intro S8 b8)
                  clear S8 b8 hbq
                  clear Z7 qk qy ck hne d3 d4
                  generalize w7.drewN nq = w8 at Z8 ⊢
                  go_upto_region 25 with fail
                  go_loopg [17] 6 (fun g s17 wr => ∃ j : Nat, j + g = 6 ∧ s17 = .int .i64 j ∧ HAs wo wr h m gv all L3 kn2 ∧ Blk wr gy 32 (evA (⟨(k4 : Int) + 1, ys, yd, yk, yn, yt, ya, yr, yf⟩ : Ev)))
                  case atStart => exact ⟨0, by omega, rfl, Z8.out.1, Z8.out.2⟩
                  case round =>
                    obtain ⟨j, hjg, rfl, S9, b9⟩ := hrel
                    clear Z8
                    obtain ⟨wq, rfl⟩ : ∃ wq : World, wq = wr := ⟨_, rfl⟩
                    obtain ⟨qk, fk⟩ := S9.K.rules
                    obtain ⟨qy, -⟩ := b9.rules
                    have lk := S9.K.lt
                    have ly := b9.lt
                    have Z9 := Lib.hid (And.intro S9 (And.intro b9 hjg))
                    clear S9 b9 hjg
                    by_cases hj : j < 6
                    · have cj := vecA_get kn2 j hj
                      have cy := evA_dep (⟨(k4 : Int) + 1, ys, yd, yk, yn, yt, ya, yr, yf⟩ : Ev) j hj
                      have j0 : (0 : Int) ≤ (j : Int) := by omega
                      have j6 : (j : Int) < 6 := by omega
                      have djj : decide ((j : Int) < 6) = true := decide_eq_true j6
                      have dj : decide (kn2.get j < yd.get j) = false := decide_eq_false (by have := HY.out.2.2.2.2 j hj; omega)
                      go_upto_region 27 with fail
                      go_quiet (fail)
                      have hbq : Below wq.heap.size wq (wq.drewN nq) := below_drewN (Below.refl _ _) nq
                      have S10 := Z9.out.1.call hbq
                      have b10 := Z9.out.2.1.call hbq
                      have Z10 := Lib.hid (And.intro S10 b10)
                      clear S10 b10 hbq qk fk qy cj cy dj djj
                      go_wp2_with fail
                      have hjg := Z9.out.2.2
                      go_roundg (gk - 1)
                      case measure => omega
                      case rel => exact ⟨j + 1, by omega, by go_num, Z10.out.1, Z10.out.2⟩
                    · have djj : decide ((j : Int) < 6) = false := decide_eq_false (by omega)
                      have ck := vecA_get kn2 k4 hk4
                      have S10 := Lib.hid (Z9.out.1.know (x := kn2.get k4 + 1) HY.out.1 hk4 nkh nkm gv0)
                      have hsv : sumV kn2 ≤ 360 := by have := sumV_le Z9.out.1.a.fits; rw [HNA.out] at this; omega
                      go_wp2_with fail
                      have hg2 := HG2.out
                      have hlt3 := HY.out.2.2.1
                      go_roundg L3.length
                      case measure => omega
                      case rel => exact ⟨_, L3, rfl, by rw [HY.out.2.2.2.1]; push_cast; rfl, S10.out, Lib.hid (fun j h1 h2 e he => HY.out.2.1 e (HC2.out j h1 h2 e he))⟩
        · have hM := HZ.out.ok.made
          have hall : ∀ e ∈ all, Cov kn L e := fun e he => by
            obtain ⟨t, ht⟩ := List.getElem?_of_mem he
            have htl := (List.getElem?_eq_some_iff.1 ht).1
            rw [HNA.out] at htl
            obtain ⟨j, h1, h2, h3⟩ := cover_idx ord.length nA t htl
            exact HC.out j h1 (by omega) e (by rw [h3]; exact ht)
          obtain ⟨hsum, rfl⟩ := ha_end hM S.a HQ.out hall
          rw [HNA.out] at hsum
          have CL := Lib.hid (show Calls Try.prog 15 #[.pointer (some ⟨h, 0, none⟩)] wi fun r w' => r = .returned (.int .i64 0) ∧ wi = w' from hlen S.H)
          have HB := Lib.hid (HZ.out.b.trans (S.b.mono HZ.out.b.size))
          have hsz : (sumV kn : Int) = (nA : Int) := by omega
          have hss : sumV kn ≤ 60 := by omega
          obtain ⟨sv, hsv⟩ : ∃ s, sumV kn = s := ⟨_, rfl⟩
          rw [hsv] at hsum hsz hss
          rw [hsv]
          subst hsum
          clear hall S HC HQ hM hsz hsv
          rcases (show decide ((i : Int) < (ord.length : Int) + (sv : Int)) = false ∨ (decide ((i : Int) < (ord.length : Int) + (sv : Int)) = true ∧ decide (0 < sv) = false) from by
            by_cases h1 : i < ord.length + sv
            · exact .inr ⟨decide_eq_true (by omega), decide_eq_false (by omega)⟩
            · exact .inl (decide_eq_false (by omega))) with d1 | ⟨d1, d2⟩
          all_goals
            clear hcond hg
            go_wp2_with fail
            refine CL.out.mono ?_
            rintro r w6 ⟨rfl, rfl⟩
            go_wp2_with fail
            refine (CW.out _).mono ?_
            rintro r w7 ⟨rfl, hb7⟩
            go_wp2_with fail
            go_ret
            exact ⟨rfl, HB.out.trans (hb7.mono HB.out.size)⟩
end Go.Proofs.Ytgbbhkdaalnchaa
