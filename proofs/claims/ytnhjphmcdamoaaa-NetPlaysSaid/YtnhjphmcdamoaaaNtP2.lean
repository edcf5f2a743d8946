/-
  The walk of leatlaw23.NetPlays.
-/
import Derived.Test.YtnhjphmcdamoaaaNpC
namespace Go.Proofs.Ytnhjphmcdamoaaa
set_option linter.unusedVariables false
set_option linter.unusedSimpArgs false
open Go.RowKit Go
set_option maxRecDepth 100000

set_option maxHeartbeats 8000000 in
theorem netplays_law (P : List Stp) (A : Option Addr) (c : Nat) (w : World) (hS : Steps w A c P) :
    Calls Try.prog 7 #[.slice A P.length c] w fun r w' => r = .returned (.bool true) ∧ Below w.heap.size w w' := by
  have CF := Lib.hid (nfew P A c w hS)
  have HS := Lib.hid hS
  have hm : c ≤ 9223372036854775807 := hS.mx
  have hle := hS.le
  clear hS
  cases hF : fewB P with
  | false =>
    have cf := CF.out
    rw [hF] at cf
    have CF2 := Lib.hid cf
    clear cf CF hF HS
    go_enter Try.func7, Try.ntmps7
    go_wp2_with fail
    refine CF2.out.mono ?_
    rintro r w1 ⟨rfl, rfl⟩
    go_wp2_with fail
    refine (works23 _).mono ?_
    rintro r w2 ⟨rfl, hb⟩
    go_wp2_with fail
    go_ret
    exact ⟨rfl, hb⟩
  | true =>
    have cf := CF.out
    rw [hF] at cf
    have CF2 := Lib.hid cf
    have hf := hF
    unfold fewB at hf
    simp only [Bool.and_eq_true, decide_eq_true_eq, List.all_eq_true] at hf
    have H20 := Lib.hid hf.2
    have h250 : P.length ≤ 250 := hf.1
    clear cf CF hF hf
    go_enter Try.func7, Try.ntmps7
    go_wp2_with fail
    refine CF2.out.mono ?_
    rintro r w1 ⟨rfl, rfl⟩
    go_wp2_with fail
    refine (nnew _).mono ?_
    rintro r w1 ⟨rfl, rfl⟩
    have B0 := Both.new w
    go_wp2_with fail
    go_loopw [5] (fun ii wr => ∃ (i : Nat) (s : Value) (X : List Mc) (L : List Ms) (C : Nat → Bool) (s2 : Value) (X2 : List Mc), i ≤ P.length ∧ ii = .int .i64 i ∧ Both w wr [] w.heap.size (w.heap.size + 1) s X L C s2 X2 L C ∧ Hid (Cap L)) (fun ii _ => P.length - (intOf ii).toNat)
    case atStart => exact ⟨0, _, _, _, _, _, _, by omega, rfl, B0, Lib.hid Cap.nil⟩
    case round =>
      clear B0 CF2
      obtain ⟨i, s, X, L, C, s2, X2, hi, rfl, B, HC⟩ := hrel
      by_cases hlt : i < P.length
      · obtain ⟨p, hp⟩ : ∃ p, P[i]? = some p := ⟨P[i], List.getElem?_eq_getElem hlt⟩
        obtain ⟨b, o, A', c', rfl, hb, hs, x0, x1, x2, x3, x4, x5, x6, x7, x8, x9, x10, x11, x12, x13, x14⟩ := HS.out.at_ B.d.b hp
        obtain ⟨b9, o9, A9, c9, e9, -, hs9, z0, z1, z2, z3, z4, z5, z6, z7, z8, z9, z10, z11, z12, z13, z14⟩ := HS.out.at_ (Below.refl _ _) hp
        have hb1 : b < wr.heap.size := Nat.lt_of_lt_of_le hb B.d.b.size
        have hsame : A9 = A' ∧ c9 = c' := by
          obtain ⟨rfl, rfl⟩ : b = b9 ∧ o = o9 := by simpa using e9
          have h1 := (B.d.b.cell (p := ⟨b, o + i * 15 + 10, none⟩) hb).symm.trans x10
          rw [z10] at h1
          simpa using h1
        obtain ⟨rfl, rfl⟩ := hsame
        have hl20 : p.m.l.length ≤ 20 := by simpa using H20.out p (List.mem_of_getElem? hp)
        have HSI := Lib.hid hs9
        have i1 : (0 : Int) ≤ (i : Int) := by omega
        have i2 : (i : Int) < (P.length : Int) := by omega
        clear hs hs9 hp e9 z0 z1 z2 z3 z4 z5 z6 z7 z8 z9 z10 z11 z12 z13 z14
        obtain ⟨⟨A1, c1, rfl⟩, A2, c2, rfl⟩ := B.norm L.length rfl rfl
        have oo := HSI.out.o
        obtain ⟨d, hd, hd2⟩ : ∃ d : Nat, Int.tmod p.o 6 = (d : Int) ∧ d < 6 := ⟨(Int.tmod p.o 6).toNat, by rw [Int.tmod_eq_emod_of_nonneg oo.1]; omega, by rw [Int.tmod_eq_emod_of_nonneg oo.1]; omega⟩
        have o1 := oo.1
        have o2 := oo.2
        clear oo
        go_upto_region 9 with fail
        replace B := B.push (t := 66) (cs := scA ⟨p.o, ⟨p.m.k, p.m.f, p.m.t, p.m.d, .slice A9 p.m.l.length c9, p.m.n, p.m.a⟩, p.k, p.j⟩) rfl
        clear x0 x1 x2 x3 x4 x5 x6 x7 x8 x9 x10 x11 x12 x13 x14 hb1
        generalize hg6 : wr.heap.size = g6 at B ⊢
        clear hg6
        generalize wr.alloc _ = w3 at B ⊢
        obtain ⟨-, -, q1, f1, -⟩ := B.a.T.rules
        obtain ⟨-, l1, -⟩ := B.a.T.lts
        rcases (show d = 0 ∨ d = 1 ∨ d = 2 ∨ d = 3 ∨ d = 4 ∨ d = 5 by omega) with rfl | rfl | rfl | rfl | rfl | rfl
        · as_aux_lemma =>
            have hle9 : p.m.l.length ≤ c9 := HSI.out.le
            have hm9 : c9 ≤ 9223372036854775807 := HSI.out.mx
            have HEV := Lib.hid B.ev_lt
            have HZ3 := Lib.hid B.d.b.size
            go_upto_region 14 with fail
            replace B := B.push (t := 48) (cs := mcA ⟨p.m.k, p.m.f, p.m.t, p.m.d, .slice A9 p.m.l.length c9, p.m.n, p.m.a⟩) rfl
            clear q1 f1 l1
            have hz4 : w3.heap.size < (w3.alloc (.cells (mcA ⟨p.m.k, p.m.f, p.m.t, p.m.d, .slice A9 p.m.l.length c9, p.m.n, p.m.a⟩) 48 (0, 0))).heap.size := by simp
            generalize hgM : w3.heap.size = gM at B HEV hz4 HZ3 ⊢
            clear hgM
            generalize w3.alloc _ = w4 at B hz4 ⊢
            obtain ⟨-, -, q7, f7, q6, f6, -⟩ := B.a.T.rules
            obtain ⟨-, l7, l6, -⟩ := B.a.T.lts
            have hE9 := HSI.out.ev.below B.d.b
            have HE9 := Lib.hid hE9
            have HZ4 := Lib.hid B.d.b.size
            clear hE9
            go_upto_region 15 with (at_builtin; refine append_evs _ rfl (.tmp 50) (.tmp 53) rfl w4.heap.size _ [] p.m.l rfl ?h1 A9 c9 w4.heap.size rfl ?h2 ?h3 ?h4 ?_; (case h1 => exact World.ownsRow_made w4 #[] 0 (Nat.le_refl _) (by decide) rfl); (case h2 => exact (HE9.out.mono HZ4.out).below ((Below.refl _ _).alloc (Nat.le_refl _) _)); (case h3 => simp; omega); (case h4 => simp); intro v5 w5 own5 hb5; rw [List.nil_append] at own5; replace hb5 := ((Below.refl w4.heap.size w4).alloc (Nat.le_refl _) (.cells #[] 68 (0, 0))).trans hb5; obtain ⟨Au, cu, rfl, hcu, hmu, -⟩ := own_open own5; have B5 := B.call hb5; have t5 := B5.a.T.blk gM _ _ (List.mem_cons_of_mem _ List.mem_cons_self); have q9 : w5.cell? ⟨gM, 9, none⟩ = some (.slice A9 p.m.l.length c9) := t5.rules.1 9; have f9 := t5.rules.2; have l9 := t5.lt)
            have b6 := t5.set_ 9 (.slice Au p.m.l.length cu)
            rw [mcA_set9] at b6
            dsimp only at b6
            have B6 := B5.bmove HZ3.out (by decide) (Fr.of_set ⟨gM, 9, none⟩ rfl (.slice Au p.m.l.length cu)) b6
            have own6 := own_far (p := ⟨gM, 9, none⟩) own5 hz4 (.slice Au p.m.l.length cu)
            clear B5 b6 t5 q9 f9 l9 own5 B q7 f7 q6 f6 l7 l6 hb5
            generalize (World.setCell _ _ _) = w6 at B6 own6 ⊢
            obtain ⟨-, -, q7, f7, q6, f6, -⟩ := B6.a.T.rules
            obtain ⟨-, l7, l6, -⟩ := B6.a.T.lts
            have cp := nput p.m HSI.out.ok Au cu (Rd.of_own own6) hcu hmu (by omega) B6.a
            have HC9 := Lib.hid (HC.out.put C p.m hl20)
            obtain ⟨ec, hec⟩ : ∃ ec, putC L C p.m = ec := ⟨_, rfl⟩
            obtain ⟨L9, heL⟩ : ∃ L9, putL L C p.m = L9 := ⟨_, rfl⟩
            rw [hec, heL] at cp
            rw [heL] at HC9
            have HEC := Lib.hid hec
            have HEL := Lib.hid heL
            have CP := Lib.hid cp
            have OW6 := Lib.hid own6
            clear cp hec heL own6
            go_wp2_with fail
            refine CP.out.mono ?_
            rintro r w7 ⟨rfl, n7⟩
            have own7 : w7.ownsRow w4.heap.size 68 14 (.slice Au p.m.l.length cu) p.m.l.length (ecells p.m.l) := by
              obtain ⟨s7, X7, n8, f8, -⟩ := n7
              exact f8.own OW6.out (own_blk_ne OW6.out B6.a.blk (by decide)) (own_apart OW6.out B6.a.own (by decide))
            obtain ⟨s7, X7, B7, hX7⟩ := B6.opA n7
            have E7 : EvSt w7 w4.heap.size p.m.l.length Au X7 := EvSt.of_own own7 OW6.out (fun x hx k hk => by
              rcases hX7 x hx with h | h
              · exact .inl (Nat.lt_trans (HEV.out x h k hk) hz4)
              · exact .inr (h k hk))
            have HE7 := Lib.hid E7
            clear B6 n7 hX7 own7 E7 OW6 CP q7 f7 q6 f6 l7 l6 HEV
            go_wp2_with fail
            go_loopw [9] (fun kx wq => ∃ q : Nat, q ≤ p.m.l.length ∧ kx = .int .i64 q ∧ Both w wq [(gM, 48, mcA ⟨p.m.k, p.m.f, p.m.t, p.m.d, .slice Au p.m.l.length cu, p.m.n, p.m.a⟩), (g6, 66, scA ⟨p.o, ⟨p.m.k, p.m.f, p.m.t, p.m.d, .slice A9 p.m.l.length c9, p.m.n, p.m.a⟩, p.k, p.j⟩)] w.heap.size (w.heap.size + 1) s7 X7 L9 C (.slice A2 L.length c2) X2 L C ∧ Hid (EvSt wq w4.heap.size p.m.l.length Au X7)) (fun kx _ => p.m.l.length - (intOf kx).toNat)
            case atStart => exact ⟨0, by omega, rfl, B7, HE7⟩
            case round =>
              clear B7 HE7
              obtain ⟨q, hq, rfl, B8, HE8⟩ := hrel
              obtain ⟨-, -, q7, f7, q6, f6, -⟩ := B8.a.T.rules
              obtain ⟨-, l7, l6, -⟩ := B8.a.T.lts
              by_cases hlq : q < p.m.l.length
              · obtain ⟨ge, cur, rfl, hbe, hsz, hge, hxe⟩ := HE8.out (by omega)
                have i5 : (0 : Int) ≤ (q : Int) := by omega
                have i6 : (q : Int) < (p.m.l.length : Int) := by omega
                have HBE := Lib.hid hbe
                have HXE := Lib.hid hxe
                have hfit : q * 14 + (evA Ev.zero).size ≤ cur.size := by show q * 14 + 14 ≤ cur.size; omega
                have HFIT := Lib.hid hfit
                clear hbe hxe hfit HE8
                go_wp2_with (refine wpList_store_at rfl _ (.tmp 70) (.tmp 69) rfl ge (q * 14) (evA Ev.zero) rfl rfl _ _ HBE.out (by kernel_rfl) HFIT.out (evA_one _) ?_; have B9 := B8.evset (Nat.le_trans HZ4.out hge) HBE.out (Fr.refl.row _ : Fr _ (World.setRow _ ge (cur.toList.take (q * 14) ++ (evA Ev.zero).toList ++ cur.toList.drop (q * 14 + (evA Ev.zero).size)).toArray) ge none) (fun g t c hm => by simp at hm; rcases hm with ⟨_, rfl, _⟩ | ⟨_, rfl, _⟩ <;> decide) HXE.out; have b9 := setRow_heap _ ge cur (cur.toList.take (q * 14) ++ (evA Ev.zero).toList ++ cur.toList.drop (q * 14 + (evA Ev.zero).size)).toArray 68 (0, 0) HBE.out; have HB9 := Lib.hid b9; clear b9; generalize (World.setRow _ _ _) = w9 at B9 HB9 ⊢)
                go_roundw
                case rel => exact ⟨q + 1, by omega, by go_num, B9, Lib.hid fun _ => ⟨ge, _, rfl, HB9.out, by rw [size_put _ _ _ HFIT.out]; exact hsz, hge, HXE.out⟩⟩
                case measure => simp [intOf]; omega
              · obtain rfl : q = p.m.l.length := by omega
                have cd := rput p.m HSI.out.ok A9 c9 HSI.out.le HSI.out.mx B8.d (HSI.out.ev.below B8.d.b)
                rw [HEC.out, HEL.out] at cd
                have CD := Lib.hid cd
                clear cd HE8
                go_wp2_with fail
                refine CD.out.mono ?_
                rintro r wn ⟨rfl, d9⟩
                obtain ⟨s9, X9, B⟩ := B8.opD d9
                clear B8 d9 CD q7 f7 q6 f6 l7 l6
                obtain ⟨s9, X9, s8, X8, B⟩ : ∃ s X s2 X2, Both w wn _ w.heap.size (w.heap.size + 1) s X _ _ s2 X2 _ _ := ⟨_, _, _, _, B⟩
                obtain ⟨⟨A7, c7, rfl⟩, A8, c8, rfl⟩ := B.norm (L9).length rfl rfl
                have CL := Lib.hid fun (x : Later wn) => nlenB A7 (L9).length c7 (B.a.blk.below x.below B.a.blk.lt)
                have x9 : wn.cell? ⟨w.heap.size + 1, 0, none⟩ = some (.slice A8 (L9).length c8) := B.d.blk.rules.1 0
                have l9 := B.d.blk.lt
                go_upto_region 37 with fail
                try simp only [Act.put, List.getElem_toArray, List.getElem_cons_succ, List.getElem_cons_zero, List.setIfInBounds_toArray, List.set_cons_succ, List.set_cons_zero]
                refine wp_region_later (by kernel_rfl) (by kernel_rfl) ?_
                repeat (go_big_quiet_step (first | (go_at_call 34; with_reducible exact Calls.later (CL.out _))))
                refine wpQuiet_nil ?_
                rintro w9 ⟨x, rfl⟩
                have B9 := (B.call x.below).drop.drop
                generalize x.w = w9 at B9
                clear B CL x9 l9
                go_wp2_with fail
                go_roundw
                case rel => exact ⟨i + 1, _, _, _, _, _, _, by omega, by go_num, B9, HC9⟩
                case measure => simp [intOf]; omega
        · as_aux_lemma =>
            go_wp2_with fail
            by_cases hk : 0 ≤ p.k ∧ p.k < (L.length : Int)
            · obtain ⟨kk, hkk⟩ : ∃ kk : Nat, p.k = (kk : Int) := ⟨p.k.toNat, by omega⟩
              have hkl : kk < L.length := by omega
              obtain ⟨m, hm9⟩ : ∃ m, L[kk]? = some m := ⟨L[kk], List.getElem?_eq_getElem hkl⟩
              have ct := ntake_ok kk m hm9 B.a
              rw [← hkk] at ct
              refine ct.mono ?_
              have HKK := Lib.hid hkk
              have HM9 := Lib.hid hm9
              clear ct q1 f1 l1 hkk hm9 hk
              rintro r w4 ⟨u, rfl, own, n4⟩
              obtain ⟨s4, X4, B4, -⟩ := B.opA n4
              obtain ⟨Au, cu, rfl, hcu, hmu, -⟩ := own_open own
              clear B n4
              replace B4 := B4.push (t := 48) (cs := mcA ⟨m.k, m.f, m.t, m.d, .slice Au m.l.length cu, m.n, m.a⟩) rfl
              replace own := own.alloc (.cells (mcA ⟨m.k, m.f, m.t, m.d, .slice Au m.l.length cu, m.n, m.a⟩) 48 (0, 0))
              have OW := Lib.hid own
              clear own
              go_upto_region 24 with fail
              generalize hg4 : w4.heap.size = g4 at B4 ⊢
              clear hg4
              generalize w4.alloc _ = w5 at B4 OW ⊢
              obtain ⟨-, -, -, -, q1, f1, -⟩ := B4.a.T.rules
              obtain ⟨-, -, l1, -⟩ := B4.a.T.lts
              have cd := rtake_ok kk m HM9.out B4.d (by rw [B4.d.evs.len]; exact HC.out.le)
              rw [← HKK.out] at cd
              have CD := Lib.hid cd
              clear cd
              go_wp2_with fail
              refine CD.out.mono ?_
              rintro r w6 ⟨Ad, cd, rfl, hcd, hmd, hed, d6⟩
              obtain ⟨own6, h6⟩ : w6.ownsRow w.heap.size 68 14 (.slice Au m.l.length cu) m.l.length (ecells m.l) ∧ True := by
                obtain ⟨s6, X6, n6, f6, -⟩ := d6
                exact ⟨f6.own OW.out (own_blk_ne OW.out B4.d.blk (by decide)) (own_apart OW.out B4.d.own (by decide)), trivial⟩
              obtain ⟨s6, X6, B6⟩ := B4.opD d6
              clear B4 d6 h6 CD q1 f1 l1 OW
              have hb7 := (Below.refl w6.heap.size w6).alloc (Nat.le_refl _) (.cells (mcA ⟨m.k, m.f, m.t, m.d, .slice Ad m.l.length cd, m.n, m.a⟩) 48 (0, 0))
              have hed7 := hed.below (hb7.mono B6.d.b.size)
              have own7 := ownsRow_below own6 hb7
              replace B6 := B6.push (t := 48) (cs := mcA ⟨m.k, m.f, m.t, m.d, .slice Ad m.l.length cd, m.n, m.a⟩) rfl
              clear hed own6 hb7
              go_upto_region 25 with fail
              generalize hg7 : w6.heap.size = g7 at B6 ⊢
              clear hg7
              generalize w6.alloc _ = w7 at B6 hed7 own7 ⊢
              have CS := Lib.hid (rsame20 m m Au Ad cu cd w7 (Rd.of_own own7) (hed7.mono B6.d.b.size) hcu hmu hcd hmd)
              rw [show decide (m = m) = true from by simp] at CS
              obtain ⟨-, -, q7, f7, q4, f4, -⟩ := B6.a.T.rules
              obtain ⟨-, l7, l4, -⟩ := B6.a.T.lts
              clear own7 hed7
              go_wp2_with fail
              refine CS.out.mono ?_
              rintro r wn ⟨rfl, hb8⟩
              have B := B6.call hb8
              clear B6 hb8 CS q7 f7 q4 f4 l7 l4
              obtain ⟨s9, X9, s8, X8, B⟩ : ∃ s X s2 X2, Both w wn _ w.heap.size (w.heap.size + 1) s X _ _ s2 X2 _ _ := ⟨_, _, _, _, B⟩
              obtain ⟨⟨A7, c7, rfl⟩, A8, c8, rfl⟩ := B.norm (L.eraseIdx kk).length rfl rfl
              have CL := Lib.hid fun (x : Later wn) => nlenB A7 (L.eraseIdx kk).length c7 (B.a.blk.below x.below B.a.blk.lt)
              have x9 : wn.cell? ⟨w.heap.size + 1, 0, none⟩ = some (.slice A8 (L.eraseIdx kk).length c8) := B.d.blk.rules.1 0
              have l9 := B.d.blk.lt
              go_upto_region 37 with fail
              try simp only [Act.put, List.getElem_toArray, List.getElem_cons_succ, List.getElem_cons_zero, List.setIfInBounds_toArray, List.set_cons_succ, List.set_cons_zero]
              refine wp_region_later (by kernel_rfl) (by kernel_rfl) ?_
              repeat (go_big_quiet_step (first | (go_at_call 34; with_reducible exact Calls.later (CL.out _))))
              refine wpQuiet_nil ?_
              rintro w9 ⟨x, rfl⟩
              have B9 := (B.call x.below).drop.drop.drop
              generalize x.w = w9 at B9
              clear B CL x9 l9
              go_wp2_with fail
              go_roundw
              case rel => exact ⟨i + 1, _, _, _, _, _, _, by omega, by go_num, B9, Lib.hid (HC.out.erase kk)⟩
              case measure => simp [intOf]; omega
            · refine (ntake_none p.k A1 L.length c1 B.a.blk (decide_eq_false hk)).mono ?_
              clear q1 f1 l1
              rintro r w4 ⟨rfl, hb4⟩
              replace B := (B.call hb4).push (t := 48) (cs := mcA Mc.zero) rfl
              clear hb4
              go_upto_region 24 with fail
              generalize hg4 : w4.heap.size = g4 at B ⊢
              clear hg4
              generalize w4.alloc _ = w5 at B ⊢
              obtain ⟨-, -, -, -, q1, f1, -⟩ := B.a.T.rules
              obtain ⟨-, -, l1, -⟩ := B.a.T.lts
              have CD := Lib.hid (rtake_none p.k A2 L.length c2 B.d.blk hk)
              clear hk
              go_wp2_with fail
              refine CD.out.mono ?_
              rintro r w6 ⟨rfl, hb6⟩
              replace B := (B.call hb6).push (t := 48) (cs := mcA Mc.zero) rfl
              clear hb6 CD q1 f1 l1
              go_upto_region 25 with fail
              generalize hg7 : w6.heap.size = g7 at B ⊢
              clear hg7
              generalize w6.alloc _ = w7 at B ⊢
              have cs : Calls Try.prog 43 #[.agg (mcA Mc.zero), .agg (mcA Mc.zero)] w7 fun r w' => r = .returned (.bool (decide (Ms.zero = Ms.zero))) ∧ Below w7.heap.size w7 w' := rsame20 Ms.zero Ms.zero none none 0 0 w7 (erows_none _ _) (erows_none _ _) (Nat.le_refl _) (by decide) (Nat.le_refl _) (by decide)
              rw [show decide (Ms.zero = Ms.zero) = true from by simp] at cs
              have CS := Lib.hid cs
              clear cs
              obtain ⟨-, -, q7, f7, q4, f4, -⟩ := B.a.T.rules
              obtain ⟨-, l7, l4, -⟩ := B.a.T.lts
              go_wp2_with fail
              refine CS.out.mono ?_
              rintro r wn ⟨rfl, hb8⟩
              replace B := B.call hb8
              clear hb8 CS q7 f7 q4 f4 l7 l4
              obtain ⟨s9, X9, s8, X8, B⟩ : ∃ s X s2 X2, Both w wn _ w.heap.size (w.heap.size + 1) s X _ _ s2 X2 _ _ := ⟨_, _, _, _, B⟩
              obtain ⟨⟨A7, c7, rfl⟩, A8, c8, rfl⟩ := B.norm (L).length rfl rfl
              have CL := Lib.hid fun (x : Later wn) => nlenB A7 (L).length c7 (B.a.blk.below x.below B.a.blk.lt)
              have x9 : wn.cell? ⟨w.heap.size + 1, 0, none⟩ = some (.slice A8 (L).length c8) := B.d.blk.rules.1 0
              have l9 := B.d.blk.lt
              go_upto_region 37 with fail
              try simp only [Act.put, List.getElem_toArray, List.getElem_cons_succ, List.getElem_cons_zero, List.setIfInBounds_toArray, List.set_cons_succ, List.set_cons_zero]
              refine wp_region_later (by kernel_rfl) (by kernel_rfl) ?_
              repeat (go_big_quiet_step (first | (go_at_call 34; with_reducible exact Calls.later (CL.out _))))
              refine wpQuiet_nil ?_
              rintro w9 ⟨x, rfl⟩
              have B9 := (B.call x.below).drop.drop.drop
              generalize x.w = w9 at B9
              clear B CL x9 l9
              go_wp2_with fail
              go_roundw
              case rel => exact ⟨i + 1, _, _, _, _, _, _, by omega, by go_num, B9, HC⟩
              case measure => simp [intOf]; omega
        · as_aux_lemma =>
            go_wp2_with fail
            by_cases hk : 0 ≤ p.k ∧ p.k < (L.length : Int)
            · obtain ⟨kk, hkk⟩ : ∃ kk : Nat, p.k = (kk : Int) := ⟨p.k.toNat, by omega⟩
              have hkl : kk < L.length := by omega
              obtain ⟨m, hm9⟩ : ∃ m, L[kk]? = some m := ⟨L[kk], List.getElem?_eq_getElem hkl⟩
              have cd := rtake_ok kk m hm9 B.d (by rw [B.d.evs.len]; exact HC.out.le)
              rw [← hkk] at cd
              refine cd.mono ?_
              have HKK := Lib.hid hkk
              have HM9 := Lib.hid hm9
              clear cd q1 f1 l1 hkk hm9 hk
              rintro r w4 ⟨Ad, cd, rfl, hcd, hmd, hed, d4⟩
              obtain ⟨s4, X4, B4⟩ := B.opD d4
              clear B d4 hed
              replace B4 := B4.call ((Below.refl _ _).alloc (Nat.le_refl _) (.cells (mcA ⟨m.k, m.f, m.t, m.d, .slice Ad m.l.length cd, m.n, m.a⟩) 48 (0, 0)))
              go_upto_region 29 with fail
              generalize w4.alloc _ = w5 at B4 ⊢
              obtain ⟨-, -, q1, f1, -⟩ := B4.a.T.rules
              obtain ⟨-, l1, -⟩ := B4.a.T.lts
              have ct := ndrop_ok kk m HM9.out B4.a
              rw [← HKK.out] at ct
              have CT := Lib.hid ct
              clear ct
              go_wp2_with fail
              refine CT.out.mono ?_
              rintro r wn ⟨rfl, n5⟩
              obtain ⟨s5, X5, B, -⟩ := B4.opA n5
              clear B4 n5 CT q1 f1 l1
              obtain ⟨s9, X9, s8, X8, B⟩ : ∃ s X s2 X2, Both w wn _ w.heap.size (w.heap.size + 1) s X _ _ s2 X2 _ _ := ⟨_, _, _, _, B⟩
              obtain ⟨⟨A7, c7, rfl⟩, A8, c8, rfl⟩ := B.norm (L.eraseIdx kk).length rfl rfl
              have CL := Lib.hid fun (x : Later wn) => nlenB A7 (L.eraseIdx kk).length c7 (B.a.blk.below x.below B.a.blk.lt)
              have x9 : wn.cell? ⟨w.heap.size + 1, 0, none⟩ = some (.slice A8 (L.eraseIdx kk).length c8) := B.d.blk.rules.1 0
              have l9 := B.d.blk.lt
              go_upto_region 37 with fail
              try simp only [Act.put, List.getElem_toArray, List.getElem_cons_succ, List.getElem_cons_zero, List.setIfInBounds_toArray, List.set_cons_succ, List.set_cons_zero]
              refine wp_region_later (by kernel_rfl) (by kernel_rfl) ?_
              repeat (go_big_quiet_step (first | (go_at_call 34; with_reducible exact Calls.later (CL.out _))))
              refine wpQuiet_nil ?_
              rintro w9 ⟨x, rfl⟩
              have B9 := (B.call x.below).drop
              generalize x.w = w9 at B9
              clear B CL x9 l9
              go_wp2_with fail
              go_roundw
              case rel => exact ⟨i + 1, _, _, _, _, _, _, by omega, by go_num, B9, Lib.hid (HC.out.erase kk)⟩
              case measure => simp [intOf]; omega
            · have cd := rtake_none p.k A2 L.length c2 B.d.blk hk
              refine cd.mono ?_
              clear cd q1 f1 l1
              rintro r w4 ⟨rfl, hb4⟩
              replace B := (B.call hb4).call ((Below.refl _ _).alloc (Nat.le_refl _) (.cells (mcA Mc.zero) 48 (0, 0)))
              go_upto_region 29 with fail
              generalize w4.alloc _ = w5 at B ⊢
              obtain ⟨-, -, q1, f1, -⟩ := B.a.T.rules
              obtain ⟨-, l1, -⟩ := B.a.T.lts
              have CT := Lib.hid (ndrop_none p.k A1 L.length c1 B.a.blk (decide_eq_false hk))
              clear hk hb4
              go_wp2_with fail
              refine CT.out.mono ?_
              rintro r wn ⟨rfl, hb5⟩
              replace B := B.call hb5
              clear CT q1 f1 l1 hb5
              obtain ⟨s9, X9, s8, X8, B⟩ : ∃ s X s2 X2, Both w wn _ w.heap.size (w.heap.size + 1) s X _ _ s2 X2 _ _ := ⟨_, _, _, _, B⟩
              obtain ⟨⟨A7, c7, rfl⟩, A8, c8, rfl⟩ := B.norm (L).length rfl rfl
              have CL := Lib.hid fun (x : Later wn) => nlenB A7 (L).length c7 (B.a.blk.below x.below B.a.blk.lt)
              have x9 : wn.cell? ⟨w.heap.size + 1, 0, none⟩ = some (.slice A8 (L).length c8) := B.d.blk.rules.1 0
              have l9 := B.d.blk.lt
              go_upto_region 37 with fail
              try simp only [Act.put, List.getElem_toArray, List.getElem_cons_succ, List.getElem_cons_zero, List.setIfInBounds_toArray, List.set_cons_succ, List.set_cons_zero]
              refine wp_region_later (by kernel_rfl) (by kernel_rfl) ?_
              repeat (go_big_quiet_step (first | (go_at_call 34; with_reducible exact Calls.later (CL.out _))))
              refine wpQuiet_nil ?_
              rintro w9 ⟨x, rfl⟩
              have B9 := (B.call x.below).drop
              generalize x.w = w9 at B9
              clear B CL x9 l9
              go_wp2_with fail
              go_roundw
              case rel => exact ⟨i + 1, _, _, _, _, _, _, by omega, by go_num, B9, HC⟩
              case measure => simp [intOf]; omega
        · as_aux_lemma =>
            go_wp2_with fail
            have TA := Lib.hid fun (W : World) (bs : List (Nat × TypeId × Array Value)) (s : Value) (X : List Mc) (N : Net w W bs w.heap.size s X L C) => ntwiceA N HC.out p.k
            have TD := Lib.hid fun (W : World) (s : Value) (X : List Mc) (N : Doc w W (w.heap.size + 1) s X L C) => rtwiceA N p.k
            have B3 := B.call (w' := w3.drew) (Below.refl _ _).drew
            generalize hec : twiceC L p.k = ec at TA TD
            generalize heL : twiceL L p.k = L9 at TA TD
            have HC9 := Lib.hid (HC.out.twice p.k)
            rw [heL] at HC9
            clear hec heL
            go_region_law (first
              | (refine step_call rfl 35 #[.pointer (some ⟨w.heap.size, 0, none⟩), .int .i64 p.k] (by simp [execOp, go_sem] <;> rfl) (TA.out _ _ _ _ B3.a) ?_
                 rintro e w4 ⟨rfl, n4⟩
                 refine ⟨_, rfl, ?_⟩
                 obtain ⟨s4, X4, B4, -⟩ := B3.opA n4
                 obtain ⟨-, -, q4, f4, -⟩ := B4.a.T.rules
                 obtain ⟨-, l4, -⟩ := B4.a.T.lts)
              | (refine step_call rfl 45 #[.pointer (some ⟨w.heap.size + 1, 0, none⟩), .int .i64 p.k] (by simp [execOp, go_sem] <;> rfl) (TD.out _ _ _ B4.d) ?_
                 rintro e wn ⟨rfl, n5⟩
                 refine ⟨_, rfl, ?_⟩
                 obtain ⟨s5, X5, B5⟩ := B4.opD n5))
            all_goals
              have B6 := B5
              clear B B3 B4 B5 n4 n5 q1 f1 l1 q4 f4 l4 TA TD HC
              have B := B6
              clear B6
              obtain ⟨s9, X9, s8, X8, B⟩ : ∃ s X s2 X2, Both w wn _ w.heap.size (w.heap.size + 1) s X _ _ s2 X2 _ _ := ⟨_, _, _, _, B⟩
              obtain ⟨⟨A7, c7, rfl⟩, A8, c8, rfl⟩ := B.norm (L9).length rfl rfl
              have CL := Lib.hid fun (x : Later wn) => nlenB A7 (L9).length c7 (B.a.blk.below x.below B.a.blk.lt)
              have x9 : wn.cell? ⟨w.heap.size + 1, 0, none⟩ = some (.slice A8 (L9).length c8) := B.d.blk.rules.1 0
              have l9 := B.d.blk.lt
              go_upto_region 37 with fail
              try simp only [Act.put, List.getElem_toArray, List.getElem_cons_succ, List.getElem_cons_zero, List.setIfInBounds_toArray, List.set_cons_succ, List.set_cons_zero]
              refine wp_region_later (by kernel_rfl) (by kernel_rfl) ?_
              repeat (go_big_quiet_step (first | (go_at_call 34; with_reducible exact Calls.later (CL.out _))))
              refine wpQuiet_nil ?_
              rintro w9 ⟨x, rfl⟩
              have B9 := (B.call x.below).drop
              generalize x.w = w9 at B9
              clear B CL x9 l9
              go_wp2_with fail
              go_roundw
              case rel => exact ⟨i + 1, _, _, _, _, _, _, by omega, by go_num, B9, HC9⟩
              case measure => simp [intOf]; omega
        · as_aux_lemma =>
            go_upto_region 35 with fail
            have B3 := B.call (w' := w3.drew) (Below.refl _ _).drew
            obtain ⟨ec, hec⟩ : ∃ ec, cutE p.k p.j = ec := ⟨_, rfl⟩
            obtain ⟨C9, heL⟩ : ∃ C9, cutF C p.k p.j = C9 := ⟨_, rfl⟩
            obtain ⟨I, hI⟩ : ∃ I : World → Prop, I = fun W => ∃ s X s2 X2, Both w W [(g6, 66, scA ⟨p.o, ⟨p.m.k, p.m.f, p.m.t, p.m.d, .slice A9 p.m.l.length c9, p.m.n, p.m.a⟩, p.k, p.j⟩)] w.heap.size (w.heap.size + 1) s X L C s2 X2 L C := ⟨_, rfl⟩
            obtain ⟨J, hJ⟩ : ∃ J : World → Prop, J = fun W => ∃ s X s2 X2, Both w W [(g6, 66, scA ⟨p.o, ⟨p.m.k, p.m.f, p.m.t, p.m.d, .slice A9 p.m.l.length c9, p.m.n, p.m.a⟩, p.k, p.j⟩)] w.heap.size (w.heap.size + 1) s X L C9 s2 X2 L C := ⟨_, rfl⟩
            obtain ⟨K9, hK⟩ : ∃ K : World → Prop, K = fun W => ∃ s X s2 X2, Both w W [(g6, 66, scA ⟨p.o, ⟨p.m.k, p.m.f, p.m.t, p.m.d, .slice A9 p.m.l.length c9, p.m.n, p.m.a⟩, p.k, p.j⟩)] w.heap.size (w.heap.size + 1) s X L C9 s2 X2 L C9 := ⟨_, rfl⟩
            have cA : ∀ W, I W → Calls Try.prog 36 #[.pointer (some ⟨w.heap.size, 0, none⟩), .int .i64 p.k, .int .i64 p.j] W fun e w' => e = .returned (.int .i64 ec) ∧ J w' := by
              subst hI hJ
              rintro W ⟨s4, X4, s5, X5, b⟩
              refine (ncutA b.a p.k p.j).mono ?_
              rintro e w' ⟨rfl, n4⟩
              rw [heL] at n4
              obtain ⟨s6, X6, B6, -⟩ := b.opA n4
              exact ⟨by rw [hec], _, _, _, _, B6⟩
            have cB : ∀ W, J W → Calls Try.prog 46 #[.pointer (some ⟨w.heap.size + 1, 0, none⟩), .int .i64 p.k, .int .i64 p.j] W fun e w' => e = .returned (.int .i64 ec) ∧ K9 w' := by
              subst hJ hK
              rintro W ⟨s4, X4, s5, X5, b⟩
              refine (rcutA b.d p.k p.j).mono ?_
              rintro e w' ⟨rfl, n4⟩
              rw [heL] at n4
              obtain ⟨s6, X6, B6⟩ := b.opD n4
              exact ⟨by rw [hec], _, _, _, _, B6⟩
            have T6 : ∀ W, I W ∨ J W ∨ K9 W → Blk W g6 66 (scA ⟨p.o, ⟨p.m.k, p.m.f, p.m.t, p.m.d, .slice A9 p.m.l.length c9, p.m.n, p.m.a⟩, p.k, p.j⟩) := by
              subst hI hJ hK
              rintro W (⟨_, _, _, _, b⟩ | ⟨_, _, _, _, b⟩ | ⟨_, _, _, _, b⟩) <;> exact b.a.T.blk _ _ _ (List.mem_cons_of_mem _ List.mem_cons_self)
            have i0 : I w3.drew := by rw [hI]; exact ⟨_, _, _, _, B3⟩
            have HK := Lib.hid hK
            clear hI hJ hK hec heL B3 B q1 f1 l1
            refine fw_region 5 11 I J K9 [.pointer (some ⟨w.heap.size, 0, none⟩), .pointer (some ⟨g6, 13, none⟩), .int .i64 p.k, .pointer (some ⟨g6, 14, none⟩), .int .i64 p.j, .int .i64 ec, .pointer (some ⟨w.heap.size + 1, 0, none⟩), .pointer (some ⟨g6, 13, none⟩), .int .i64 p.k, .pointer (some ⟨g6, 14, none⟩), .int .i64 p.j, .int .i64 ec, .bool false] (by kernel_rfl) (by kernel_rfl) (by kernel_rfl) (by simp) i0 ?_
            iterate 5
              refine fw_val rfl _ rfl (by decide) (by decide) ?_ ?_
              · intro W hW
                have t6 := T6 W hW
                obtain ⟨q9, -⟩ := t6.rules
                have l9 := t6.lt
                simp [execOp, go_sem, q9, l9]
                done
              simp only [Act.put, List.setIfInBounds_toArray, List.set_cons_succ, List.set_cons_zero]
            refine fw_callP rfl 36 #[.pointer (some ⟨w.heap.size, 0, none⟩), .int .i64 p.k, .int .i64 p.j] (.int .i64 ec) rfl (by decide) (fun W => (run_call3 _ _ 36 (.tmp 130) (.tmp 132) (.tmp 134) _ rfl rfl cf_cutA W).trans rfl) cA ?_
            simp only [Act.put, List.setIfInBounds_toArray, List.set_cons_succ, List.set_cons_zero]
            iterate 5
              refine fw_val rfl _ rfl (by decide) (by decide) ?_ ?_
              · intro W hW
                have t6 := T6 W hW
                obtain ⟨q9, -⟩ := t6.rules
                have l9 := t6.lt
                simp [execOp, go_sem, q9, l9]
                done
              simp only [Act.put, List.setIfInBounds_toArray, List.set_cons_succ, List.set_cons_zero]
            refine fw_callQ rfl 46 #[.pointer (some ⟨w.heap.size + 1, 0, none⟩), .int .i64 p.k, .int .i64 p.j] (.int .i64 ec) rfl (by decide) rfl (by kernel_rfl) (fun W => (run_call3 _ _ 46 (.tmp 136) (.tmp 138) (.tmp 140) _ rfl rfl cf_cutD W).trans rfl) cB ?_
            simp only [Act.put, List.setIfInBounds_toArray, List.set_cons_succ, List.set_cons_zero]
            refine fw_val rfl _ rfl (by decide) (by decide) (fun W _ => by simp [execOp, go_sem]) ?_
            simp only [Act.put, List.setIfInBounds_toArray, List.set_cons_succ, List.set_cons_zero]
            unfold Fw wpFx
            intro wn hbn
            rw [HK.out] at hbn
            obtain ⟨s5, X5, s6, X6, B⟩ := hbn
            clear cA cB T6 i0 HK
            obtain ⟨s9, X9, s8, X8, B⟩ : ∃ s X s2 X2, Both w wn _ w.heap.size (w.heap.size + 1) s X _ _ s2 X2 _ _ := ⟨_, _, _, _, B⟩
            obtain ⟨⟨A7, c7, rfl⟩, A8, c8, rfl⟩ := B.norm (L).length rfl rfl
            have CL := Lib.hid fun (x : Later wn) => nlenB A7 (L).length c7 (B.a.blk.below x.below B.a.blk.lt)
            have x9 : wn.cell? ⟨w.heap.size + 1, 0, none⟩ = some (.slice A8 (L).length c8) := B.d.blk.rules.1 0
            have l9 := B.d.blk.lt
            go_upto_region 37 with fail
            try simp only [Act.put, List.getElem_toArray, List.getElem_cons_succ, List.getElem_cons_zero, List.setIfInBounds_toArray, List.set_cons_succ, List.set_cons_zero]
            refine wp_region_later (by kernel_rfl) (by kernel_rfl) ?_
            repeat (go_big_quiet_step (first | (go_at_call 34; with_reducible exact Calls.later (CL.out _))))
            refine wpQuiet_nil ?_
            rintro w9 ⟨x, rfl⟩
            have B9 := (B.call x.below).drop
            generalize x.w = w9 at B9
            clear B CL x9 l9
            go_wp2_with fail
            go_roundw
            case rel => exact ⟨i + 1, _, _, _, _, _, _, by omega, by go_num, B9, HC⟩
            case measure => simp [intOf]; omega
        · as_aux_lemma =>
            go_wp2_with fail
            refine (nhealN B.a).mono ?_
            rintro r w4 ⟨rfl, n4, f4⟩
            obtain ⟨s4, X4, B4, -⟩ := B.opA ⟨_, _, n4, f4.weak, .inl rfl, fun x hx => .inl hx⟩
            clear B n4 f4 q1 f1 l1
            have hb4 := B4.d.blk
            have l4 := hb4.lt
            have HB4 := Lib.hid hb4
            clear hb4
            go_upto_region 37 with (refine wpList_store_at rfl _ (.tmp 45) (.tmp 43) rfl (w.heap.size + 1) 1 cuts0 rfl rfl _ _ HB4.out (by kernel_rfl) (cuts_fit _ _) (by kernel_rfl) ?_; rw [netA_heal])
            obtain ⟨s5, X5, B⟩ := B4.healD
            clear B4 HB4 l4
            generalize (World.setRow _ _ _) = wn at B ⊢
            obtain ⟨s9, X9, s8, X8, B⟩ : ∃ s X s2 X2, Both w wn _ w.heap.size (w.heap.size + 1) s X _ _ s2 X2 _ _ := ⟨_, _, _, _, B⟩
            obtain ⟨⟨A7, c7, rfl⟩, A8, c8, rfl⟩ := B.norm (L).length rfl rfl
            have CL := Lib.hid fun (x : Later wn) => nlenB A7 (L).length c7 (B.a.blk.below x.below B.a.blk.lt)
            have x9 : wn.cell? ⟨w.heap.size + 1, 0, none⟩ = some (.slice A8 (L).length c8) := B.d.blk.rules.1 0
            have l9 := B.d.blk.lt
            go_upto_region 37 with fail
            try simp only [Act.put, List.getElem_toArray, List.getElem_cons_succ, List.getElem_cons_zero, List.setIfInBounds_toArray, List.set_cons_succ, List.set_cons_zero]
            refine wp_region_later (by kernel_rfl) (by kernel_rfl) ?_
            repeat (go_big_quiet_step (first | (go_at_call 34; with_reducible exact Calls.later (CL.out _))))
            refine wpQuiet_nil ?_
            rintro w9 ⟨x, rfl⟩
            have B9 := (B.call x.below).drop
            generalize x.w = w9 at B9
            clear B CL x9 l9
            go_wp2_with fail
            go_roundw
            case rel => exact ⟨i + 1, _, _, _, _, _, _, by omega, by go_num, B9, HC⟩
            case measure => simp [intOf]; omega
      · obtain rfl : i = P.length := by omega
        as_aux_lemma =>
          go_wp2_with fail
          go_loopw [17] (fun _ wr => ∃ (s : Value) (X : List Mc) (L : List Ms) (C : Nat → Bool) (s2 : Value) (X2 : List Mc), Both w wr [] w.heap.size (w.heap.size + 1) s X L C s2 X2 L C ∧ Hid (Cap L)) (fun _ wr => lenAt wr (w.heap.size + 1))
          case atStart => exact ⟨_, _, _, _, _, _, B, HC⟩
          case round =>
            clear B HC
            obtain ⟨s, X, L, C, s2, X2, B, HC⟩ := hrel
            obtain ⟨⟨A1, c1, rfl⟩, A2, c2, rfl⟩ := B.norm L.length rfl rfl
            have y0 : wr.cell? ⟨w.heap.size + 1, 0, none⟩ = some (.slice A2 L.length c2) := B.d.blk.rules.1 0
            have l0 := B.d.blk.lt
            by_cases hpos : 0 < L.length
            · have e1 : decide ((0 : Int) < (L.length : Int)) = true := decide_eq_true (by omega)
              have hle8 := HC.out.le
              have e2 : Int.tdiv (L.length : Int) 2 = ((L.length / 2 : Nat) : Int) := by rw [Int.tdiv_eq_ediv_of_nonneg (by omega)]; omega
              have hkl : L.length / 2 < L.length := by omega
              have hla : lenAt wr (w.heap.size + 1) = L.length := lenAt_of y0
              have HLA := Lib.hid hla
              clear hla
              generalize L.length / 2 = kk at e2 hkl
              obtain ⟨m, hm9⟩ : ∃ m, L[kk]? = some m := ⟨L[kk], List.getElem?_eq_getElem hkl⟩
              have CT := Lib.hid (ntake_ok kk m hm9 B.a)
              have HM9 := Lib.hid hm9
              have HKL := Lib.hid hkl
              clear hm9
              go_wp2_with fail
              refine CT.out.mono ?_
              clear CT
              rintro r w4 ⟨u, rfl, own, n4⟩
              obtain ⟨s4, X4, B4, -⟩ := B.opA n4
              obtain ⟨Au, cu, rfl, hcu, hmu, -⟩ := own_open own
              clear B n4 y0 l0
              replace B4 := B4.push (t := 48) (cs := mcA ⟨m.k, m.f, m.t, m.d, .slice Au m.l.length cu, m.n, m.a⟩) rfl
              replace own := own.alloc (.cells (mcA ⟨m.k, m.f, m.t, m.d, .slice Au m.l.length cu, m.n, m.a⟩) 48 (0, 0))
              have OW := Lib.hid own
              clear own
              go_upto_region 41 with fail
              generalize hg4 : w4.heap.size = g4 at B4 ⊢
              clear hg4
              generalize w4.alloc _ = w5 at B4 OW ⊢
              have CD := Lib.hid (rtake_ok kk m HM9.out B4.d (by rw [B4.d.evs.len]; exact HC.out.le))
              have y0 : w5.cell? ⟨w.heap.size + 1, 0, none⟩ = some (.slice A2 L.length c2) := B4.d.blk.rules.1 0
              have l0 := B4.d.blk.lt
              go_wp2_with fail
              refine CD.out.mono ?_
              rintro r w6 ⟨Ad, cd, rfl, hcd, hmd, hed, d6⟩
              obtain ⟨own6, h6⟩ : w6.ownsRow w.heap.size 68 14 (.slice Au m.l.length cu) m.l.length (ecells m.l) ∧ True := by
                obtain ⟨s6, X6, n6, f6, -⟩ := d6
                exact ⟨f6.own OW.out (own_blk_ne OW.out B4.d.blk (by decide)) (own_apart OW.out B4.d.own (by decide)), trivial⟩
              obtain ⟨s6, X6, B6⟩ := B4.opD d6
              clear B4 d6 h6 CD y0 l0 OW
              have hb7 := (Below.refl w6.heap.size w6).alloc (Nat.le_refl _) (.cells (mcA ⟨m.k, m.f, m.t, m.d, .slice Ad m.l.length cd, m.n, m.a⟩) 48 (0, 0))
              have hed7 := hed.below (hb7.mono B6.d.b.size)
              have own7 := ownsRow_below own6 hb7
              replace B6 := B6.push (t := 48) (cs := mcA ⟨m.k, m.f, m.t, m.d, .slice Ad m.l.length cd, m.n, m.a⟩) rfl
              clear hed own6 hb7
              go_upto_region 42 with fail
              generalize hg7 : w6.heap.size = g7 at B6 ⊢
              clear hg7
              generalize w6.alloc _ = w7 at B6 hed7 own7 ⊢
              have CS := Lib.hid (rsame20 m m Au Ad cu cd w7 (Rd.of_own own7) (hed7.mono B6.d.b.size) hcu hmu hcd hmd)
              rw [show decide (m = m) = true from by simp] at CS
              obtain ⟨-, -, q7, f7, q4, f4, -⟩ := B6.a.T.rules
              obtain ⟨-, l7, l4, -⟩ := B6.a.T.lts
              clear own7 hed7
              go_wp2_with fail
              refine CS.out.mono ?_
              rintro r wn ⟨rfl, hb8⟩
              have B := (B6.call hb8).drop.drop
              clear B6 hb8 CS q7 f7 q4 f4 l7 l4
              have HLE := Lib.hid (List.length_eraseIdx_of_lt HKL.out)
              have HLN := Lib.hid (lenAt_of (B.d.blk.rules.1 0) |>.trans (sliceLen_of B))
              go_wp2_with fail
              go_roundw
              case rel => exact ⟨_, _, _, _, _, _, B, Lib.hid (HC.out.erase kk)⟩
              case measure => rw [HLA.out, HLN.out, HLE.out]; have := HKL.out; omega
            · have e1 : decide ((0 : Int) < (L.length : Int)) = false := decide_eq_false (by omega)
              go_wp2_with fail
              refine (works23 _).mono ?_
              rintro r w9 ⟨rfl, hb⟩
              have B9 := B.call hb
              clear B
              go_wp2_with fail
              go_ret
              exact ⟨rfl, B9.d.b⟩
end Go.Proofs.Ytnhjphmcdamoaaa
