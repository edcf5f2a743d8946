/-
  The walk of HoldLate.
-/
import Derived.Test.YtgbbhkdaalnchaaGT
namespace Go.Proofs.Ytgbbhkdaalnchaa
set_option linter.unusedVariables false
set_option linter.unusedSimpArgs false
open Go.RowKit Go Go.BigFrame
set_option maxRecDepth 100000

theorem hl_put {all L : List Ev} {kn : Vec} (hM : Made all) (h : HA all L kn) {x : Ev} (hx : x ∈ all) (h64 : L.length ≤ 64) :
    (hputR kn L x = 14 ∨ (lateB kn x = false ∧ (hputR kn L x = 0 ∨ hputR kn L x = 7))) ∧ HA all (hputL kn L x) kn ∧ (hputL kn L x).length ≤ 64 := by
  obtain ⟨_, hm, _⟩ := hM.may hx
  cases hl : lateB kn x with
  | true =>
    have hr : hputR kn L x = 14 := by simp [hputR, hm, hl]
    rw [hputL, hr, if_neg (by decide)]
    exact ⟨.inl rfl, h, h64⟩
  | false =>
    cases hk : lookE L x.o x.s with
    | some y =>
      have hr : hputR kn L x = 14 := by simp [hputR, hm, hl, hk]
      rw [hputL, hr, if_neg (by decide)]
      exact ⟨.inl rfl, h, h64⟩
    | none =>
      by_cases hn : 64 ≤ L.length
      · have hr : hputR kn L x = 7 := by simp [hputR, hm, hl, hk, hn]
        rw [hputL, hr, if_neg (by decide)]
        exact ⟨.inr ⟨rfl, .inr rfl⟩, h, h64⟩
      · have hr : hputR kn L x = 0 := by simp [hputR, hm, hl, hk, hn]
        rw [hputL, hr, if_pos rfl]
        refine ⟨.inr ⟨rfl, .inl rfl⟩, ⟨h.fits, fun e he => ?_⟩, by simp; omega⟩
        rcases List.mem_append.1 he with he | he
        · exact h.sub e he
        · obtain rfl := List.mem_singleton.1 he; exact hx
theorem hl_end {L : List Ev} {v : Vec} (h : ∀ e ∈ L, lateB v e = true) : hnextR v L = none ∧ ∀ L', NextTo v L L' → L' = [] := by
  have hf : (L.filter fun e => !lateB v e) = [] := List.filter_eq_nil_iff.2 fun e he => by simp [h e he]
  have hr : hnextR v L = none := by unfold hnextR; rw [hf]; exact pickE_no fun y hy => by cases hy
  refine ⟨hr, fun L' ht => ?_⟩
  unfold NextTo at ht
  rw [hr, hf] at ht
  exact ht.nil_eq.symm
/-- What is known of so many, each in turn. -/
theorem late_max {v : Vec} {e : Ev} {k : Nat} (hk : k < 6) {s : Int} (hs : v.get k ≤ s) (hl : lateB v e = true) : lateB (v.set k s) e = true := by
  have hm : emayB e = true := by unfold lateB at hl; rw [Bool.and_eq_true] at hl; exact hl.1
  obtain ⟨r, hr, ho, _⟩ := place_yes e (emay_place hm)
  rw [late_may hm ho] at hl ⊢
  have hl := of_decide_eq_true hl
  apply decide_eq_true
  rw [Vec.get_set _ _ _ _ hk hr]
  split
  · rename_i e1; subst e1; omega
  · exact hl
set_option maxHeartbeats 4000000 in
theorem holdlate_law (n : Nat) (h255 : n ≤ 255) (who : Nat) (hw255 : who ≤ 255) (acts : List Ac) (A : Option Addr) (ca : Nat) (ord : List Nat) (B : Option Addr) (cb : Nat) (w : World) (hA : RowsIn w 9 acA A acts ca) (hok : ∀ u ∈ acts, u.ok) (hB : RowsIn w 1 u8A B ord cb) (hoo : ∀ u ∈ ord, u ≤ 255) :
    Calls Try.prog 3 #[.int .u8 n, .slice A acts.length ca, .slice B ord.length cb, .int .u8 who] w fun r w' => r = .returned (.bool true) ∧ Below w.heap.size w w' := by
  obtain ⟨bf, hbf⟩ : ∃ b, decide ((acts.length : Int) ≤ 60) = b := ⟨_, rfl⟩
  have CF := Lib.hid (fun W => few A acts.length ca W bf hbf)
  have CW := Lib.hid (fun W => works15 W)
  by_cases hs : acts.length ≤ 60 ∧ ord.length ≤ 120
  rotate_left
  · have hs' : bf = false ∨ (bf = true ∧ decide ((120 : Int) < (ord.length : Int)) = true) := by
      cases bf with
      | false => exact .inl rfl
      | true => exact .inr ⟨rfl, decide_eq_true (by have := of_decide_eq_true hbf; omega)⟩
    clear hs hbf hA hB hok hoo
    rcases hs' with rfl | ⟨rfl, hd⟩
    all_goals
      go_enter Try.func3, Try.ntmps3
      go_wp2_with fail
      refine (CF.out _).mono ?_
      rintro r w1 ⟨rfl, rfl⟩
      go_wp2_with fail
      refine (CW.out _).mono ?_
      rintro r w2 ⟨rfl, hb⟩
      go_wp2_with fail
      go_ret
      exact ⟨rfl, hb⟩
  obtain rfl : bf = true := by rw [← hbf]; exact decide_eq_true (by omega)
  have hd120 : decide ((120 : Int) < (ord.length : Int)) = false := decide_eq_false (by omega)
  obtain ⟨m6, hm6⟩ : ∃ m, n % 6 = m := ⟨_, rfl⟩
  have hm6' : m6 < 6 := by rw [← hm6]; exact Nat.mod_lt _ (by decide)
  have ht : Int.tmod (n : Int) 6 = (m6 : Int) := by rw [← hm6]; rfl
  have hn255 : (n : Int) ≤ 255 := by omega
  have CN := Lib.hid (fun W => show Calls Try.prog 11 #[.int .i64 (1 + (m6 : Int))] W (NewWPost (1 + m6) W) from by have := wnew (1 + m6) (by omega) (by omega) W; simpa using this)
  have HI := Lib.hid (And.intro hA (And.intro hok (And.intro hB (And.intro hoo hs))))
  have hmA : ca ≤ 9223372036854775807 := hA.mx
  have hlA : acts.length ≤ ca := hA.le
  have hmB : cb ≤ 9223372036854775807 := hB.mx
  have hlB : ord.length ≤ cb := hB.le
  clear hbf hm6 hA hB hok hoo hs
  go_enter Try.func3, Try.ntmps3
  go_wp2_with fail
  refine (CF.out _).mono ?_
  rintro r w1 ⟨rfl, rfl⟩
  go_wp2_with fail
  refine (CN.out _).mono ?_
  rintro r w2 ⟨gw, vL0, gs, rfl, hW2, hgl, hb2⟩
  have HZ := Lib.hid (acted_new hW2 hgl hb2)
  clear hW2 hgl hb2 CF CN hd120 ht
  go_wp2_with fail
  go_loopw [10] (fun s8 wr => ∃ (k : Nat) (vL vA : Value) (ls : List (Nat × Vec)) (all : List Ev), k ≤ acts.length ∧ s8 = .int .i64 k ∧ Acted w wr gw (1 + m6) k vL vA ls all) (fun s8 _ => acts.length - (intOf s8).toNat)
  case atStart => exact ⟨0, _, _, _, _, by omega, rfl, HZ.out⟩
  case round =>
    obtain ⟨k, vL, vA, ls, all, hk, rfl, hZ⟩ := hrel
    clear HZ
    obtain ⟨wo, rfl⟩ : ∃ wo : World, wo = wr := ⟨_, rfl⟩
    by_cases hlt : k < acts.length
    · have hd : decide ((k : Int) < (acts.length : Int)) = true := by simp; omega
      obtain ⟨x, hx⟩ : ∃ x, acts[k]? = some x := ⟨acts[k], List.getElem?_eq_getElem hlt⟩
      obtain ⟨b, o, rfl, hbl, hr⟩ := (HI.out.1.call hZ.b).at_ acA_size (by decide) hx
      have hld := run_ldR (P := Try.prog) hr Try.underlying36 rfl (size_ac x)
      have CD := Lib.hid (wdo hZ.W hZ.ok x (HI.out.2.1 x (List.mem_of_getElem? hx)) (by rw [hZ.len]; omega) (by rw [hZ.len]; omega) (by have := hZ.le; have := HI.out.2.2.2.2.1; omega))
      have HZ := Lib.hid hZ
      clear hZ hr hx hbl
      go_wp2_with fail
      refine CD.out.mono ?_
      rintro r w3 ⟨e, vL', vA', ls', all', rfl, hW', ok', hl', hle', hb'⟩
      have HZ' := Lib.hid (show Acted w w3 gw (1 + m6) (k + 1) vL' vA' ls' all' from ⟨hW', ok', hl'.trans HZ.out.len, Nat.le_trans hle' (by have := HZ.out.le; omega), HZ.out.b.trans hb'⟩)
      clear HZ CD hW' ok' hl' hle' hb' hld
      go_wp2_with fail
      go_roundw
      case rel => exact ⟨k + 1, vL', vA', ls', all', by omega, by go_num, HZ'.out⟩
      case measure => simp [intOf]; omega
    · have hd : decide ((k : Int) < (acts.length : Int)) = false := by simp; omega
      have HZ := Lib.hid hZ
      have h60 : all.length ≤ 60 := by have := hZ.le; have := HI.out.2.2.2.2.1; omega
      clear hZ
      obtain ⟨Aa, cAa, rfl, hcA, hmA'⟩ := HZ.out.W.ra.sl
      unfold maxLen at hmA'
      obtain ⟨nA, hnA⟩ : ∃ n, all.length = n := ⟨_, rfl⟩
      have CH := Lib.hid (fun W => hnew W)
      have HNA := Lib.hid hnA
      rw [hnA] at h60 hcA
      clear hk hmA hlA hnA
      -- what one of them knows
      have hl0 : 0 < ls.length := by rw [HZ.out.len]; omega
      have hl6 : ls.length ≤ 6 := by rw [HZ.out.len]; omega
      have ho2 := Nat.mod_lt who hl0
      obtain ⟨p2, hp2⟩ : ∃ p, ls[who % ls.length]? = some p := ⟨_, List.getElem?_eq_getElem ho2⟩
      obtain ⟨gl, cl, rfl, hcl, hml, hgl, lgl⟩ := HZ.out.W.rl.sl_pos hl0
      unfold maxLen at hml
      obtain ⟨ls', hls⟩ : ∃ n, ls.length = n := ⟨_, rfl⟩
      obtain ⟨o2, hoe2⟩ : ∃ o, who % ls.length = o := ⟨_, rfl⟩
      have htw : Int.tmod (who : Int) (ls' : Int) = (o2 : Int) := by rw [← hoe2, ← hls]; rfl
      rw [hoe2] at ho2 hp2
      have hp0 := HZ.out.W.rl.rng ptA_size hp2 0 (.pointer (some ⟨p2.1, 0, none⟩)) rfl
      have hp1 : wo.cell? ⟨gl, o2, none⟩ = some (.pointer (some ⟨p2.1, 0, none⟩)) := by rw [show o2 * 1 + 0 = o2 from by omega] at hp0; exact hp0
      obtain ⟨inn, vn, vg, gt, vl, vr, ns, gs2, tt, rs, hL, -⟩ := HZ.out.W.led p2 (List.mem_of_getElem? hp2)
      have hfit := HZ.out.ok.fits p2 (List.mem_of_getElem? hp2)
      obtain ⟨g1, kn⟩ := p2
      obtain ⟨q2, -⟩ := hL.blk.rules
      have ll := hL.blk.lt
      obtain ⟨q, -⟩ := HZ.out.W.blk.rules
      have lg := HZ.out.W.blk.lt
      rw [hls] at hcl ho2 hl6 hl0 q
      have hw255' : (who : Int) ≤ 255 := by omega
      have HF := Lib.hid hfit
      clear hoe2 hp2 hp0 hL hfit
      go_upto_region 8 with fail
      go_cut [11] (fun s11 wx => s11 = .pointer (some ⟨wo.heap.size, 0, none⟩) ∧ Blk wx wo.heap.size 30 (vecA kn) ∧ Below wo.heap.size wo wx)
      case first =>
        go_region
        go_wp2_with fail
        go_meet
        exact ⟨rfl, (Blk.new _ _ _ : Blk (wo.alloc (.cells (vecA kn) 30)) wo.heap.size 30 (vecA kn)).drew, ((Below.refl _ _).alloc (Nat.le_refl _) _).drew⟩
      case rest =>
        obtain ⟨rfl, bK, hbK⟩ := hcut
        have HK := Lib.hid (And.intro bK hbK)
        have gv0 : wo.heap.size ≤ wo.heap.size := Nat.le_refl _
        have lkc : wo.heap.size < wc.heap.size := bK.lt
        clear bK hbK q q2 ll lg hp1 htw hd hlt hcl hml hl0 hl6 hw255'
        go_wp2_with fail
        refine (CH.out _).mono ?_
        rintro r w1 ⟨u1, rfl, h, m, rfl, H1, gh, gm, hb1⟩
        have lh := H1.blk.lt
        have lm := H1.map.lt
        have S0 := Lib.hid (show HAs wo w1 h m wo.heap.size all [] kn from ⟨H1, HK.out.1.call hb1, HK.out.2.trans (hb1.mono HK.out.2.size), HF.out, fun _ h => by cases h⟩)
        have gmw : wo.heap.size ≤ m := by omega
        have nkh : wo.heap.size ≠ h := by omega
        have nkm : wo.heap.size ≠ m := by omega
        clear H1 hb1 CH HK HF
        go_wp2_with fail
        go_loopg [13] ord.length (fun g s13 wr => ∃ (i : Nat) (L : List Ev), i + g = ord.length ∧ s13 = .int .i64 i ∧ HAs wo wr h m wo.heap.size all L kn ∧ L.length ≤ 64)
        case atStart => exact ⟨0, [], by omega, rfl, S0.out, by simp⟩
        case round =>
          obtain ⟨i, L, hg, rfl, S, h64⟩ := hrel
          clear S0
          obtain ⟨wi, rfl⟩ : ∃ wi : World, wi = wr := ⟨_, rfl⟩
          have hW := HZ.out.W.call S.b
          rw [HNA.out] at hW
          obtain ⟨q, -⟩ := hW.blk.rules
          have lg := hW.blk.lt
          have ho120 : (ord.length : Int) ≤ 120 := by have := HI.out.2.2.2.2.2; omega
          by_cases hcond : i < ord.length ∧ 0 < nA
          · obtain ⟨hio, hpos⟩ := hcond
            have d1 : decide ((i : Int) < (ord.length : Int)) = true := decide_eq_true (by omega)
            obtain ⟨p, hp⟩ : ∃ p, ord[i]? = some p := ⟨_, List.getElem?_eq_getElem hio⟩
            have hp255 : (p : Int) ≤ 255 := by have := HI.out.2.2.2.1 p (List.mem_of_getElem? hp); omega
            obtain ⟨b, o, rfl, hbb, hrg⟩ := (HI.out.2.2.1.call (HZ.out.b.trans (S.b.mono HZ.out.b.size))).at_ u8A_size (by decide) hp
            have cp : wi.cell? ⟨b, o + i, none⟩ = some (.int .u8 p) := by have := hrg 0 _ rfl; rw [show o + i * 1 + 0 = o + i from by omega] at this; exact this
            obtain ⟨r2, hr2⟩ : ∃ r, p % nA = r := ⟨_, rfl⟩
            have hr2l : r2 < nA := by rw [← hr2]; exact Nat.mod_lt _ hpos
            have htr : Int.tmod (p : Int) (nA : Int) = (r2 : Int) := by rw [← hr2]; rfl
            have hr2l2 : r2 < all.length := by rw [HNA.out]; exact hr2l
            obtain ⟨y, hy⟩ : ∃ x, all[r2]? = some x := ⟨all[r2], List.getElem?_eq_getElem hr2l2⟩
            obtain ⟨g2, cap2, e0, h1, h2, h3, lg2⟩ := hW.ra.sl_pos (by rw [HNA.out]; exact hpos)
            rw [HNA.out] at e0
            injection e0 with e1 e2 e3
            subst e1; subst e3
            obtain ⟨b0, o0, hA0, hbl2, hcells⟩ := (hW.ra.erows rfl).at_ hy
            obtain ⟨rfl, rfl⟩ : g2 = b0 ∧ 0 = o0 := by simpa using hA0
            rw [Nat.zero_add] at hcells
            obtain ⟨c0, c1, c2, c3, c4, c5, c6, c7, c8, c9, c10, c11, c12, c13⟩ := hcells
            have hym := List.mem_of_getElem? hy
            have HS := Lib.hid S
            have HG := Lib.hid hg
            clear hr2 hy hA0 hW hrg hr2l2 S hg h1 h2 h3 e2
            go_upto_region 13 with fail
            go_cut [14] (fun s14 wx => s14 = .pointer (some ⟨wi.heap.size, 0, none⟩) ∧ HAs wo wx h m wo.heap.size all L kn ∧ Blk wx wi.heap.size 32 (evA y))
            case first =>
              go_region
              go_wp2_with fail
              go_meet
              exact ⟨rfl, HS.out.call (((Below.refl wi.heap.size wi).alloc (Nat.le_refl _) (.cells (evA y) 32)).drew), (Blk.new _ _ _ : Blk (wi.alloc (.cells (evA y) 32)) wi.heap.size 32 (evA y)).drew⟩
            case rest =>
              obtain ⟨rfl, S, hBy⟩ := hcut
              have hgx : m < wi.heap.size := HS.out.H.map.lt
              clear c0 c1 c2 c3 c4 c5 c6 c7 c8 c9 c10 c11 c12 c13 q lg htr d1 HS cp hbb hp255
              generalize wi.heap.size = gx at hBy hgx hbl2 lg2 ⊢
              have hM := HZ.out.ok.made
              obtain ⟨hyok, hymay, k4, hk4, ho4, hys1, hys2⟩ := hM.may hym
              obtain ⟨hcase, ha', hlen⟩ := hl_put hM S.a hym h64
              obtain ⟨e, he⟩ : ∃ e, hputR kn L y = e := ⟨_, rfl⟩
              rw [he] at hcase
              have hll : lateB kn y = decide (y.s ≤ kn.get k4) := late_may hymay ho4
              obtain ⟨lb, hlb⟩ : ∃ b, decide (y.s ≤ kn.get k4) = b := ⟨_, rfl⟩
              have hfin : (e = 14 ∧ lb = true) ∨ (e = 14 ∧ lb = false) ∨ (e = 0 ∧ lb = false) ∨ (e = 7 ∧ lb = false) := by
                rw [hll, hlb] at hcase
                rcases hcase with h1 | ⟨h1, h2 | h2⟩
                · cases lb with
                  | true => exact .inl ⟨h1, rfl⟩
                  | false => exact .inr (.inl ⟨h1, rfl⟩)
                · exact .inr (.inr (.inl ⟨h2, h1⟩))
                · exact .inr (.inr (.inr ⟨h2, h1⟩))
              have CP := Lib.hid (hput_is kn y hyok L (hputL kn L y) e he rfl wc h m S.H)
              obtain ⟨yo, ys, yd, yk, yn, yt, ya, yr, yf⟩ := y
              obtain rfl : yo = (k4 : Int) + 1 := ho4
              dsimp only at hlb
              obtain ⟨qk, -⟩ := S.K.rules
              obtain ⟨qy, -⟩ := hBy.rules
              have lk := S.K.lt
              have ly := hBy.lt
              have HS := Lib.hid S
              have HP := Lib.hid (And.intro ha' (And.intro hlen (And.intro hfin hBy)))
              clear hM hyok hymay hys1 hys2 hcase ha' hlen he hll hfin S hBy hym
              go_wp2_with fail
              refine CP.out.mono ?_
              rintro r w5 ⟨rfl, H5, F5⟩
              have S5 := HS.out.turn F5 H5 HP.out.1 nkm gmw
              have B5 := F5.blk HP.out.2.2.2 (by omega) (by simp)
              clear CP HS H5 F5 qk qy lk ly
              obtain ⟨qk, -⟩ := S5.K.rules
              obtain ⟨qy, -⟩ := B5.rules
              have ck := vecA_get kn k4 hk4
              have k0 : (0 : Int) ≤ (k4 : Int) := by omega
              have k6 : (k4 : Int) < 6 := by omega
              have Z5 := Lib.hid S5
              clear S5 B5
              go_upto_region 15 with fail
              go_quiet (fail)
              have hbq : Below w5.heap.size w5 (w5.drewN nq) := below_drewN (Below.refl _ _) nq
              have S6 := Z5.out.call hbq
              have Z6 := Lib.hid S6
              have CL := Lib.hid (hlen S6.H)
              clear S6 hbq qk qy ck Z5 hlb
              generalize w5.drewN nq = w6 at Z6 CL ⊢
              have dl : decide ((64 : Int) < ((hputL kn L ⟨(k4 : Int) + 1, ys, yd, yk, yn, yt, ya, yr, yf⟩).length : Int)) = false := decide_eq_false (by have := HP.out.2.1; omega)
              go_upto_region 16 with fail
              go_cut [136] (fun s136 wx => s136 = .bool false ∧ HAs wo wx h m wo.heap.size all (hputL kn L ⟨(k4 : Int) + 1, ys, yd, yk, yn, yt, ya, yr, yf⟩) kn)
              case first =>
                rcases HP.out.2.2.1 with ⟨rfl, rfl⟩ | ⟨rfl, rfl⟩ | ⟨rfl, rfl⟩ | ⟨rfl, rfl⟩
                all_goals
                  go_wp2_with fail
                  refine CL.out.mono ?_
                  rintro r w7 ⟨rfl, rfl⟩
                  go_wp2_with fail
                  go_meet
                  exact ⟨rfl, Z6.out⟩
              case rest =>
                obtain ⟨rfl, S7⟩ := hcut
                clear Z6 CL dl
                have Z7 := Lib.hid (And.intro S7 HP.out.2.1)
                clear S7
                go_wp2_with fail
                have hg := HG.out
                go_roundg (ord.length - (i + 1))
                case measure => omega
                case rel => exact ⟨i + 1, _, by omega, by go_num, Z7.out.1, Z7.out.2⟩
          · have hM := Lib.hid HZ.out.ok.made
            have HS := Lib.hid S
            have CS := Lib.hid (fun (k : Nat) (hk : k < 6) => vecA_get Vec.zero k hk)
            clear S hW
            go_upto_region 11 with fail
            go_cut [77] (fun s77 wx => s77 = .bool false ∧ HAs wo wx h m wo.heap.size all L kn)
            case first =>
              rcases (show decide (i < ord.length) = false ∨ (decide (i < ord.length) = true ∧ decide (0 < nA) = false) from by
                by_cases h1 : i < ord.length
                · exact .inr ⟨decide_eq_true (by omega), decide_eq_false (by omega)⟩
                · exact .inl (decide_eq_false (by omega))) with d1 | ⟨d1, d2⟩
              all_goals
                clear hcond hg
                go_wp2_with fail
                go_meet
                exact ⟨rfl, HS.out⟩
            case rest =>
              obtain ⟨rfl, S1⟩ := hcut
              clear HS hcond hg
              have HS := Lib.hid S1
              clear S1 q lg
              go_upto_region 19 with fail
              have S0 := Lib.hid (And.intro (HS.out.call ((Below.refl wc.heap.size wc).alloc (Nat.le_refl _) (.cells (vecA Vec.zero) 30))) (Blk.new wc 30 (vecA Vec.zero)))
              have nga : m < wc.heap.size := HS.out.H.map.lt
              have nha : h < wc.heap.size := HS.out.H.blk.lt
              have nka : wo.heap.size < wc.heap.size := HS.out.K.lt
              clear HS
              generalize wc.alloc _ = wb at S0 ⊢
              generalize wc.heap.size = ga at S0 nga nha nka ⊢
              go_upto_region 20 with fail
              go_loopg [18] nA (fun g s18 wr => ∃ (j : Nat) (av : Vec), j + g = nA ∧ s18 = .int .i64 j ∧ HAs wo wr h m wo.heap.size all L kn ∧ Blk wr ga 30 (vecA av) ∧ Hid (∀ i, i < j → ∀ e, all[i]? = some e → lateB av e = true) ∧ Hid (∀ r, r < 6 → 0 ≤ av.get r ∧ av.get r ≤ 1000))
              case atStart => exact ⟨0, Vec.zero, by omega, rfl, S0.out.1, S0.out.2, Lib.hid (fun i hi => absurd hi (by omega)), Lib.hid (fun r _ => by rw [Vec.get_zero]; omega)⟩
              case round =>
                obtain ⟨j, av, hjg, rfl, S, bA, HLT, HAV⟩ := hrel
                clear S0
                obtain ⟨wj, rfl⟩ : ∃ wj : World, wj = wr := ⟨_, rfl⟩
                have hW := HZ.out.W.call S.b
                rw [HNA.out] at hW
                obtain ⟨q, -⟩ := hW.blk.rules
                have lg := hW.blk.lt
                obtain ⟨qa, fa⟩ := bA.rules
                have la := bA.lt
                by_cases hj : j < nA
                · have dj : decide (j < nA) = true := decide_eq_true (by omega)
                  have hjl : j < all.length := by rw [HNA.out]; exact hj
                  obtain ⟨e, he⟩ : ∃ x, all[j]? = some x := ⟨all[j], List.getElem?_eq_getElem hjl⟩
                  obtain ⟨g2, cap2, e0, h1, h2, h3, lg2⟩ := hW.ra.sl_pos (by omega)
                  rw [HNA.out] at e0
                  injection e0 with e1 e2 e3
                  subst e1; subst e3
                  obtain ⟨eok, emay, k4, hk4, ho4, hs1, hs2⟩ := hM.out.may (List.mem_of_getElem? he)
                  obtain ⟨eo, es, ed, ek, en, et, ea, er, ef⟩ := e
                  obtain rfl : eo = (k4 : Int) + 1 := ho4
                  have c0 : wj.cell? ⟨g2, j * 14, none⟩ = some (.int .i64 ((k4 : Int) + 1)) := hW.ra.rng evA_size he 0 _ rfl
                  have c1 : wj.cell? ⟨g2, j * 14 + 1, none⟩ = some (.int .u64 es) := hW.ra.rng evA_size he 1 _ rfl
                  have ca : wj.cell? ⟨ga, k4, none⟩ = some (.int .u64 (av.get k4)) := (qa k4).trans (vecA_get av k4 hk4)
                  have k0 : (0 : Int) ≤ (k4 : Int) := by omega
                  have k6 : (k4 : Int) < 6 := by omega
                  have hle : es ≤ 1000 := by have h1 := cntO_le k4 all; rw [HNA.out] at h1; dsimp only at hs2; omega
                  obtain ⟨mx, hmx, hmx1, hmx2, hmx3⟩ : ∃ mx : Int, (if av.get k4 < es then es else av.get k4) = mx ∧ av.get k4 ≤ mx ∧ es ≤ mx ∧ mx ≤ 1000 := ⟨_, rfl, by split <;> omega, by split <;> omega, by have := (HAV.out k4 hk4).2; split <;> omega⟩
                  have fN : Fr wj (wj.setCell ⟨ga, k4, none⟩ (.int .u64 mx)) ga none := Fr.of_set ⟨ga, k4, none⟩ rfl _
                  have bN := bA.set_ k4 (.int .u64 mx)
                  rw [vecA_set _ _ _ hk4] at bN
                  have S9 := S.other fN (by omega) (by omega) (by omega) (by omega)
                  have Z := Lib.hid (And.intro S9 (And.intro bN (show ∀ i, i < j + 1 → ∀ x, all[i]? = some x → lateB (av.set k4 mx) x = true from fun i hi x hx => by
                    rcases Nat.lt_or_ge i j with h1 | h1
                    · exact late_max hk4 (by omega) (HLT.out i h1 x hx)
                    · obtain rfl : i = j := by omega
                      rw [he] at hx
                      injection hx with hx
                      subst hx
                      rw [late_may emay rfl]
                      apply decide_eq_true
                      rw [Vec.get_set _ _ _ _ hk4 hk4, if_pos rfl]
                      dsimp only
                      omega)))
                  have HV2 := Lib.hid (show ∀ r, r < 6 → 0 ≤ (av.set k4 mx).get r ∧ (av.set k4 mx).get r ≤ 1000 from fun r hr => by
                    have h1 := HAV.out r hr
                    have h2 := HAV.out k4 hk4
                    rw [Vec.get_set _ _ _ _ hk4 hr]
                    split
                    · omega
                    · exact h1)
                  have HJ := Lib.hid hjg
                  clear eok emay hs1 hs2 he hW S bA fN bN S9 hjl h1 h2 h3 e2 qa hjg hle hmx1 hmx2 hmx3
                  rcases (show (av.get k4 < es ∧ mx = es) ∨ (es ≤ av.get k4 ∧ mx = av.get k4) from by
                    by_cases hc : av.get k4 < es
                    · rw [if_pos hc] at hmx; exact .inl ⟨hc, hmx.symm⟩
                    · rw [if_neg hc] at hmx; exact .inr ⟨by omega, hmx.symm⟩) with ⟨hc, rfl⟩ | ⟨hc, rfl⟩
                  all_goals
                    clear hmx
                    go_upto_region 22 with fail
                    go_region
                    go_wp2_with fail
                    have hjg := HJ.out
                    go_roundg (nA - (j + 1))
                    case measure => omega
                    case rel => exact ⟨j + 1, _, by omega, by go_num, Z.out.1.call (Below.refl _ _).drew, Z.out.2.1.drew, Lib.hid Z.out.2.2, HV2⟩
                · have dj : decide (j < nA) = false := decide_eq_false (by omega)
                  have hlall : ∀ e ∈ L, lateB av e = true := fun e he => by
                    obtain ⟨i, hi⟩ := List.getElem?_of_mem (S.a.sub e he)
                    have := (List.getElem?_eq_some_iff.1 hi).1
                    rw [HNA.out] at this
                    exact HLT.out i (by omega) e hi
                  obtain ⟨hr, hnil⟩ := hl_end hlall
                  have hX := hnext S.H av (fun k hk => ⟨(HAV.out k hk).1, by have := (HAV.out k hk).2; omega⟩) (fun e he => (hM.out.may (S.a.sub e he)).1)
                  have CX := Lib.hid (show Calls Try.prog 16 #[.pointer (some ⟨h, 0, none⟩), .agg (vecA av)] wj fun r w' => r = .returned (.tuple #[.agg (evA Ev.zero), .bool false]) ∧ HO w' h m [] ∧ Fr wj w' m none from hX.mono fun r w' ⟨h1, L', h2, h3, h4⟩ => ⟨by rw [h1, hr]; rfl, by rw [hnil L' h4] at h2; exact h2, h3⟩)
                  have HB := Lib.hid (And.intro S.b HZ.out.b)
                  clear hlall hr hnil hX S hW
                  go_wp2_with fail
                  refine CX.out.mono ?_
                  rintro r w6 ⟨rfl, H6, F6⟩
                  have hB6 := HB.out.2.trans ((F6.below HB.out.1 gmw (fun _ h => by cases h)).mono HB.out.2.size)
                  have hB7 := hB6.alloc (o := .cells (evA Ev.zero) 32) hB6.size
                  have CL := Lib.hid (show Calls Try.prog 15 #[.pointer (some ⟨h, 0, none⟩)] (w6.alloc (.cells (evA Ev.zero) 32)) fun r w' => r = .returned (.int .i64 0) ∧ (w6.alloc (.cells (evA Ev.zero) 32)) = w' from hlen (H6.call ((Below.refl _ _).alloc (Nat.le_refl _) _)))
                  have HB7 := Lib.hid hB7
                  clear CX hB6 hB7 H6 F6 qa fa la bA
                  go_upto_region 24 with fail
                  generalize w6.alloc _ = w7 at HB7 CL ⊢
                  go_wp2_with fail
                  refine CL.out.mono ?_
                  rintro r w8 ⟨rfl, rfl⟩
                  go_wp2_with fail
                  refine (CW.out _).mono ?_
                  rintro r w9 ⟨rfl, hb9⟩
                  go_wp2_with fail
                  go_ret
                  exact ⟨rfl, HB7.out.trans (hb9.mono HB7.out.size)⟩
end Go.Proofs.Ytgbbhkdaalnchaa
