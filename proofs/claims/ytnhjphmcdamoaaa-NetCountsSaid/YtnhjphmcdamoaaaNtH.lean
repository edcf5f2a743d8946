/-
  The walk of leatlaw23.NetCounts.
-/
import Derived.Test.YtnhjphmcdamoaaaNtG
namespace Go.Proofs.Ytnhjphmcdamoaaa
set_option linter.unusedVariables false
set_option linter.unusedSimpArgs false
open Go.RowKit Go
set_option maxRecDepth 100000

set_option maxHeartbeats 8000000 in
theorem netcounts_law (P : List Stp) (A : Option Addr) (c : Nat) (w : World) (hS : Steps w A c P) :
    Calls Try.prog 8 #[.slice A P.length c] w fun r w' => r = .returned (.bool true) ∧ Below w.heap.size w w' := by
  have CF := Lib.hid (nfew P A c w hS)
  have HS := Lib.hid hS
  have hm : c ≤ 9223372036854775807 := hS.mx
  have hle := hS.le
  clear hS
  cases hF : fewB P with
  | false =>
    have cf := CF.out
    rw [hF] at cf
    have CF2 := Lib.hid cf
    clear cf CF hF HS
    go_enter Try.func8, Try.ntmps8
    go_wp2_with fail
    refine CF2.out.mono ?_
    rintro r w1 ⟨rfl, rfl⟩
    go_wp2_with fail
    refine (works23 _).mono ?_
    rintro r w2 ⟨rfl, hb⟩
    go_wp2_with fail
    go_ret
    exact ⟨rfl, hb⟩
  | true =>
    have cf := CF.out
    rw [hF] at cf
    have CF2 := Lib.hid cf
    have hf := hF
    unfold fewB at hf
    simp only [Bool.and_eq_true, decide_eq_true_eq, List.all_eq_true] at hf
    have H20 := Lib.hid hf.2
    have h250 : P.length ≤ 250 := hf.1
    clear cf CF hF hf
    go_enter Try.func8, Try.ntmps8
    go_wp2_with fail
    refine CF2.out.mono ?_
    rintro r w1 ⟨rfl, rfl⟩
    go_wp2_with fail
    refine (nnew _).mono ?_
    rintro r w1 ⟨rfl, rfl⟩
    have N := Net.new w
    generalize w.alloc _ = w1 at N ⊢
    go_wp2_with fail
    go_loopw [4, 5, 6] (fun pu go ii wr => ∃ (i : Nat) (s : Value) (X : List Mc) (L : List Ms) (C : Nat → Bool) (put gone : Int), i ≤ P.length ∧ pu = .int .i64 put ∧ go = .int .i64 gone ∧ ii = .int .i64 i ∧ Net w wr [] w.heap.size s X L C ∧ Hid (Cnt P i L put gone)) (fun _ _ ii _ => P.length - (intOf ii).toNat)
    case atStart => exact ⟨0, _, _, _, _, 0, 0, by omega, rfl, rfl, rfl, N, Lib.hid ⟨fun m hm => (by cases hm), rfl, by decide, by decide⟩⟩
    case round =>
      clear N CF2
      obtain ⟨i, s, X, L, C, put, gone, hi, rfl, rfl, rfl, N, HC⟩ := hrel
      by_cases hlt : i < P.length
      · obtain ⟨p, hp⟩ : ∃ p, P[i]? = some p := ⟨P[i], List.getElem?_eq_getElem hlt⟩
        obtain ⟨b, o, A', c', rfl, hb, hs, x0, x1, x2, x3, x4, x5, x6, x7, x8, x9, x10, x11, x12, x13, x14⟩ := HS.out.at_ N.T.below hp
        have hb1 : b < wr.heap.size := Nat.lt_of_lt_of_le hb N.T.below.size
        have hl20 : p.m.l.length ≤ 20 := by simpa using H20.out p (List.mem_of_getElem? hp)
        have HSI := Lib.hid hs
        have HP := Lib.hid hp
        have i1 : (0 : Int) ≤ (i : Int) := by omega
        have i2 : (i : Int) < (P.length : Int) := by omega
        clear hs hp
        obtain ⟨A1, c1, rfl⟩ := N.norm L.length rfl
        go_wp2_with fail
        have N1 : Net w _ [(wr.heap.size, 66, scA ⟨p.o, ⟨p.m.k, p.m.f, p.m.t, p.m.d, .slice A' p.m.l.length c', p.m.n, p.m.a⟩, p.k, p.j⟩)] w.heap.size (.slice A1 L.length c1) X L C := N.push (t := 66) (cs := scA ⟨p.o, ⟨p.m.k, p.m.f, p.m.t, p.m.d, .slice A' p.m.l.length c', p.m.n, p.m.a⟩, p.k, p.j⟩) rfl
        have hE : ERows (wr.alloc (.cells (scA ⟨p.o, ⟨p.m.k, p.m.f, p.m.t, p.m.d, .slice A' p.m.l.length c', p.m.n, p.m.a⟩, p.k, p.j⟩) 66)) (wr.alloc (.cells (scA ⟨p.o, ⟨p.m.k, p.m.f, p.m.t, p.m.d, .slice A' p.m.l.length c', p.m.n, p.m.a⟩, p.k, p.j⟩) 66)).heap.size A' p.m.l := HSI.out.ev.next ((Below.refl _ _).alloc (Nat.le_refl _) _)
        generalize wr.alloc _ = w3 at N1 hE ⊢
        have HE := Lib.hid hE
        clear N x0 x1 x2 x3 x4 x5 x6 x7 x8 x9 x10 x11 x12 x13 x14 hE hb1
        have CL := Lib.hid (nlen w.heap.size A1 L.length c1 C w3 N1.blk)
        obtain ⟨q0, f0, q1, f1, -⟩ := N1.T.rules
        obtain ⟨l0, l1, -⟩ := N1.T.lts
        clear q0
        have oo := HSI.out.o
        obtain ⟨d, hd, hd2⟩ : ∃ d : Nat, Int.tmod p.o 6 = (d : Int) ∧ d < 6 := ⟨(Int.tmod p.o 6).toNat, by rw [Int.tmod_eq_emod_of_nonneg oo.1]; omega, by rw [Int.tmod_eq_emod_of_nonneg oo.1]; omega⟩
        have o1 := oo.1
        have o2 := oo.2
        have hc := HC.out
        have hcb := hc.b
        have hcle := hc.le
        have hcl := hc.len
        clear hc oo
        obtain ⟨u0, u1, u2, u3⟩ := hcb
        have c42 : ((L.length : Int) != put - gone) = false := by simp; omega
        have c43 : decide ((128 : Int) < (L.length : Int)) = false := decide_eq_false (by omega)
        clear hcl
        rcases (show d = 0 ∨ d = 1 ∨ d = 2 ∨ d = 3 ∨ d = 4 ∨ d = 5 by omega) with rfl | rfl | rfl | rfl | rfl | rfl
        · as_aux_lemma =>
            go_wp2_with (go_at_call 34; (with_reducible refine CL.out.mono ?_); rintro r w4 ⟨rfl, rfl⟩)
            have cp := Lib.hid (nput p.m HSI.out.ok A' c' HE.out HSI.out.le HSI.out.mx (by omega) N1)
            clear N1 CL HE q1 f0 f1 l0 l1
            rcases putCases L C p.m with ⟨ec, el, h128⟩ | ⟨ec, el⟩ | ⟨ec, el⟩ | ⟨ec, el⟩
            · have cp2 := cp.out
              rw [ec, el] at cp2
              refine cp2.mono ?_
              clear cp cp2 ec el
              rintro r w5 ⟨rfl, s5, X5, N, -⟩
              obtain ⟨n5, hn5, hn6, hn7⟩ : ∃ n5, L.length ≤ n5 ∧ n5 ≤ L.length + 1 ∧ L.length + 1 = n5 := ⟨_, by omega, by omega, rfl⟩
              obtain ⟨A5, c5, rfl⟩ := N.norm n5 (by rw [List.length_append, ← hn7]; rfl)
              have HN7 := Lib.hid hn7
              clear hn7
              have CL := Lib.hid (nlen w.heap.size A5 n5 c5 C w5 N.blk)
              go_upto_region 42 with (go_at_call 34; (with_reducible refine CL.out.mono ?_); rintro r w4 ⟨rfl, rfl⟩)
              have hpu : put + ((n5 : Int) - (L.length : Int)) = put + 1 := by have := HN7.out; omega
              rw [hpu]
              clear hpu
              obtain ⟨pu, hpu⟩ : ∃ pu, put + 1 = pu := ⟨_, rfl⟩
              rw [hpu]
              have g1 : ((n5 : Int) != pu - gone) = false := by have := HN7.out; have := HC.out.len; simp; omega
              have g2 : decide ((128 : Int) < (n5 : Int)) = false := decide_eq_false (by omega)
              have g3 : 0 ≤ pu := by omega
              have g4 : pu ≤ 251 := by omega
              have HPU := Lib.hid hpu
              clear hpu
              go_wp2_with (go_at_call 34; (with_reducible refine CL.out.mono ?_); rintro r w4 ⟨rfl, rfl⟩)
              go_roundw
              case rel => exact ⟨i + 1, _, _, _, _, pu, _, by omega, rfl, rfl, by go_num, N.drop, Lib.hid (HC.out.put HP.out (by simpa using hd) h128 _ HPU.out.symm)⟩
              case measure => simp [intOf]; omega
            · have cp2 := cp.out
              rw [ec, el] at cp2
              refine cp2.mono ?_
              clear cp cp2 ec el
              rintro r w5 ⟨rfl, s5, X5, N, -⟩
              obtain ⟨A5, c5, rfl⟩ := N.norm L.length rfl
              have CL := Lib.hid (nlen w.heap.size A5 L.length c5 C w5 N.blk)
              go_upto_region 42 with (go_at_call 34; (with_reducible refine CL.out.mono ?_); rintro r w4 ⟨rfl, rfl⟩)
              go_wp2_with (go_at_call 34; (with_reducible refine CL.out.mono ?_); rintro r w4 ⟨rfl, rfl⟩)
              go_roundw
              case rel => exact ⟨i + 1, _, _, _, _, _, _, by omega, rfl, rfl, by go_num, N.drop, Lib.hid HC.out.same⟩
              case measure => simp [intOf]; omega
            · have cp2 := cp.out
              rw [ec, el] at cp2
              refine cp2.mono ?_
              clear cp cp2 ec el
              rintro r w5 ⟨rfl, s5, X5, N, -⟩
              obtain ⟨A5, c5, rfl⟩ := N.norm L.length rfl
              have CL := Lib.hid (nlen w.heap.size A5 L.length c5 C w5 N.blk)
              go_upto_region 42 with (go_at_call 34; (with_reducible refine CL.out.mono ?_); rintro r w4 ⟨rfl, rfl⟩)
              go_wp2_with (go_at_call 34; (with_reducible refine CL.out.mono ?_); rintro r w4 ⟨rfl, rfl⟩)
              go_roundw
              case rel => exact ⟨i + 1, _, _, _, _, _, _, by omega, rfl, rfl, by go_num, N.drop, Lib.hid HC.out.same⟩
              case measure => simp [intOf]; omega
            · have cp2 := cp.out
              rw [ec, el] at cp2
              refine cp2.mono ?_
              clear cp cp2 ec el
              rintro r w5 ⟨rfl, s5, X5, N, -⟩
              obtain ⟨A5, c5, rfl⟩ := N.norm L.length rfl
              have CL := Lib.hid (nlen w.heap.size A5 L.length c5 C w5 N.blk)
              go_upto_region 42 with (go_at_call 34; (with_reducible refine CL.out.mono ?_); rintro r w4 ⟨rfl, rfl⟩)
              go_wp2_with (go_at_call 34; (with_reducible refine CL.out.mono ?_); rintro r w4 ⟨rfl, rfl⟩)
              go_roundw
              case rel => exact ⟨i + 1, _, _, _, _, _, _, by omega, rfl, rfl, by go_num, N.drop, Lib.hid HC.out.same⟩
              case measure => simp [intOf]; omega
        · as_aux_lemma =>
            go_wp2_with (go_at_call 34; (with_reducible refine CL.out.mono ?_); rintro r w4 ⟨rfl, rfl⟩)
            generalize hgB : wr.heap.size = gB at N1 l1 q1 f1 ⊢
            clear hgB
            by_cases hk : 0 ≤ p.k ∧ p.k < (L.length : Int)
            · obtain ⟨kk, hkk⟩ : ∃ kk : Nat, p.k = (kk : Int) := ⟨p.k.toNat, by omega⟩
              have hkl : kk < L.length := by omega
              obtain ⟨m, hm9⟩ : ∃ m, L[kk]? = some m := ⟨L[kk], List.getElem?_eq_getElem hkl⟩
              have ct := ntake_ok kk m hm9 N1
              rw [← hkk] at ct
              refine ct.mono ?_
              have HM9 := Lib.hid hm9
              have HKK := Lib.hid hkk
              clear ct N1 CL HE q1 f0 f1 l0 l1 hm9 hkk hk
              rintro r w5 ⟨u, rfl, own, s5, X5, N, -⟩
              obtain ⟨Au, cu, rfl, hcu, hmu, -⟩ := own_open own
              obtain ⟨n5, hn5, hn6, hn7⟩ : ∃ n5, n5 ≤ L.length ∧ L.length ≤ n5 + 1 ∧ n5 + 1 = L.length := ⟨L.length - 1, by omega, by omega, by omega⟩
              obtain ⟨A5, c5, rfl⟩ := N.norm n5 (by rw [List.length_eraseIdx_of_lt hkl]; omega)
              have g5 : ((n5 : Int) != (L.length : Int) - 1) = false := by simp; omega
              have g6 : ((n5 : Int) != put - (gone + 1)) = false := by have := HC.out.len; simp; omega
              have g7 : decide ((128 : Int) < (n5 : Int)) = false := decide_eq_false (by omega)
              clear hn7
              have N2 := N.push (t := 48) (cs := mcA ⟨m.k, m.f, m.t, m.d, .slice Au m.l.length cu, m.n, m.a⟩) rfl
              have own2 := own.alloc (.cells (mcA ⟨m.k, m.f, m.t, m.d, .slice Au m.l.length cu, m.n, m.a⟩) 48 (0, 0))
              have OWN := Lib.hid own2
              clear N own own2
              have hw0 := HC.out.le
              go_wp2_with fail
              go_loopw [12, 13] (fun th kx wq => ∃ q : Nat, q ≤ i ∧ kx = .int .i64 q ∧ th = .bool (anyS P q m) ∧ Net w wq [(w5.heap.size, 48, mcA ⟨m.k, m.f, m.t, m.d, .slice Au m.l.length cu, m.n, m.a⟩), (gB, 66, scA ⟨p.o, ⟨p.m.k, p.m.f, p.m.t, p.m.d, .slice A' p.m.l.length c', p.m.n, p.m.a⟩, p.k, p.j⟩)] w.heap.size (.slice A5 n5 c5) X5 (L.eraseIdx kk) C ∧ Hid (wq.ownsRow w.heap.size 68 14 (.slice Au m.l.length cu) m.l.length (ecells m.l))) (fun _ kx _ => i - (intOf kx).toNat)
              case atStart => exact ⟨0, by omega, rfl, rfl, N2, OWN⟩
              case round =>
                clear N2 OWN HSI hb
                obtain ⟨q, hq, rfl, rfl, N2, OWN⟩ := hrel
                obtain ⟨tb, htb⟩ : ∃ tb, anyS P q m = tb := ⟨_, rfl⟩
                rw [htb]
                have HTB := Lib.hid htb
                clear htb
                obtain ⟨-, -, q1, f1, -⟩ := N2.T.rules
                obtain ⟨l0, l1, -⟩ := N2.T.lts
                by_cases hlt2 : q < i
                · obtain ⟨p2, hp2⟩ : ∃ p2, P[q]? = some p2 := ⟨P[q]'(by omega), List.getElem?_eq_getElem (by omega)⟩
                  obtain ⟨b2, o2, A2, c2, ea, hb2, hs2, y0, y1, y2, y3, y4, y5, y6, y7, y8, y9, y10, y11, y12, y13, y14⟩ := HS.out.at_ N2.T.below hp2
                  obtain ⟨rfl, rfl⟩ : b = b2 ∧ o = o2 := by simpa using ea
                  clear ea
                  have hb3 : b < wr.heap.size := Nat.lt_of_lt_of_le hb2 N2.T.below.size
                  have i5 : (0 : Int) ≤ (q : Int) := by omega
                  have i6 : (q : Int) < (i : Int) := by omega
                  have i7 : (q : Int) < (P.length : Int) := by omega
                  have oo2 := hs2.o
                  obtain ⟨d2, hd2, -⟩ : ∃ d2 : Nat, Int.tmod p2.o 6 = (d2 : Int) ∧ d2 < 6 := ⟨(Int.tmod p2.o 6).toNat, by rw [Int.tmod_eq_emod_of_nonneg oo2.1]; omega, by rw [Int.tmod_eq_emod_of_nonneg oo2.1]; omega⟩
                  have o3 := oo2.1
                  have o4 := oo2.2
                  have HP2 := Lib.hid hp2
                  obtain ⟨sb, hsb⟩ : ∃ sb, decide (p2.m = m) = sb := ⟨_, rfl⟩
                  have cs : ∀ x : Later wr, Calls Try.prog 43 #[.agg (mcA ⟨p2.m.k, p2.m.f, p2.m.t, p2.m.d, .slice A2 p2.m.l.length c2, p2.m.n, p2.m.a⟩), .agg (mcA ⟨m.k, m.f, m.t, m.d, .slice Au m.l.length cu, m.n, m.a⟩)] x.w fun r w' => r = .returned (.bool sb) ∧ Below x.w.heap.size x.w w' := fun x => by
                    rw [← hsb]
                    exact rsame20 p2.m m A2 Au c2 cu x.w ((hs2.ev.below x.below).mono x.below.size) (((Rd.of_own OWN.out).below x.below).mono x.below.size) hs2.le hs2.mx hcu hmu
                  have CS := Lib.hid cs
                  have HSB := Lib.hid hsb
                  clear cs hsb hs2 hp2 oo2
                  rcases (show tb = true ∨ (tb = false ∧ d2 = 0) ∨ (tb = false ∧ d2 ≠ 0) by cases tb <;> simp <;> omega) with rfl | ⟨rfl, rfl⟩ | ⟨rfl, hdn⟩
                  all_goals
                    try have e9 : ((d2 : Int) == 0) = false := by simp; omega
                    go_wp2_with fail
                    refine wp_region_later (by kernel_rfl) (by kernel_rfl) ?_
                    repeat (go_big_quiet_step (first | (go_at_call 43; with_reducible exact Calls.later (CS.out _))))
                    refine wpQuiet_nil ?_
                    rintro w8 ⟨x, rfl⟩
                    have N3 := N2.call x.below
                    have OWN3 := Lib.hid (ownsRow_below OWN.out x.below)
                    generalize x.w = w8 at N3 OWN3
                    clear N2 OWN CS y0 y1 y2 y3 y4 y5 y6 y7 y8 y9 y10 y11 y12 y13 y14 q1 f1 l0 l1
                    go_wp2_with fail
                    go_roundw
                    case rel =>
                      refine ⟨q + 1, by omega, by go_num, ?_, N3, OWN3⟩
                      simp [anyS_succ HP2.out m, HTB.out, hd2, HSB.out] <;> omega
                    case measure => simp [intOf]; omega
                · obtain rfl : q = i := by omega
                  have hyes : tb = true := by rw [← HTB.out]; exact anyS_yes HC.out (List.mem_of_getElem? HM9.out)
                  subst hyes
                  have CL := Lib.hid (nlen w.heap.size A5 n5 c5 C wr N2.blk)
                  have N := N2.drop.drop
                  clear N2 OWN q1 f1 l0 l1
                  go_wp2_with (go_at_call 34; (with_reducible refine CL.out.mono ?_); rintro r w4 ⟨rfl, rfl⟩)
                  go_roundw
                  case rel => exact ⟨q + 1, _, _, _, _, _, _, by omega, rfl, rfl, by go_num, N, Lib.hid (HC.out.gone hkl _ rfl)⟩
                  case measure => simp [intOf]; omega
            · refine (ntake_none p.k A1 L.length c1 N1.blk (decide_eq_false hk)).mono ?_
              clear CL HE q1 f0 f1 l0 l1
              rintro r w5 ⟨rfl, hb5⟩
              have N := (N1.call hb5).call ((Below.refl _ _).alloc (Nat.le_refl _) (.cells (mcA Mc.zero) 48 (0, 0)))
              clear N1 hb5
              have CL := Lib.hid (nlen w.heap.size A1 L.length c1 C _ N.blk)
              go_wp2_with (go_at_call 34; (with_reducible refine CL.out.mono ?_); rintro r w4 ⟨rfl, rfl⟩)
              go_roundw
              case rel => exact ⟨i + 1, _, _, _, _, _, _, by omega, rfl, rfl, by go_num, N.drop, Lib.hid HC.out.same⟩
              case measure => simp [intOf]; omega
        · as_aux_lemma =>
            go_wp2_with (go_at_call 34; (with_reducible refine CL.out.mono ?_); rintro r w4 ⟨rfl, rfl⟩)
            by_cases hk : 0 ≤ p.k ∧ p.k < (L.length : Int)
            · obtain ⟨kk, hkk⟩ : ∃ kk : Nat, p.k = (kk : Int) := ⟨p.k.toNat, by omega⟩
              have hkl : kk < L.length := by omega
              obtain ⟨m, hm9⟩ : ∃ m, L[kk]? = some m := ⟨L[kk], List.getElem?_eq_getElem hkl⟩
              have ct := ndrop_ok kk m hm9 N1
              rw [← hkk] at ct
              refine ct.mono ?_
              clear ct N1 CL HE q1 f0 f1 l0 l1 hm9 hkk hk
              rintro r w5 ⟨rfl, s5, X5, N, -⟩
              obtain ⟨n5, hn5, hn6, hn7⟩ : ∃ n5, n5 ≤ L.length ∧ L.length ≤ n5 + 1 ∧ n5 + 1 = L.length := ⟨L.length - 1, by omega, by omega, by omega⟩
              obtain ⟨A5, c5, rfl⟩ := N.norm n5 (by rw [List.length_eraseIdx_of_lt hkl]; omega)
              have g6 : ((n5 : Int) != put - (gone + 1)) = false := by have := HC.out.len; simp; omega
              have g7 : decide ((128 : Int) < (n5 : Int)) = false := decide_eq_false (by omega)
              clear hn7
              have CL := Lib.hid (nlen w.heap.size A5 n5 c5 C w5 N.blk)
              go_wp2_with (go_at_call 34; (with_reducible refine CL.out.mono ?_); rintro r w4 ⟨rfl, rfl⟩)
              go_roundw
              case rel => exact ⟨i + 1, _, _, _, _, _, _, by omega, rfl, rfl, by go_num, N.drop, Lib.hid (HC.out.gone hkl _ rfl)⟩
              case measure => simp [intOf]; omega
            · refine (ndrop_none p.k A1 L.length c1 N1.blk (decide_eq_false hk)).mono ?_
              clear CL HE q1 f0 f1 l0 l1
              rintro r w5 ⟨rfl, hb5⟩
              have N := N1.call hb5
              clear N1 hb5
              have CL := Lib.hid (nlen w.heap.size A1 L.length c1 C _ N.blk)
              go_wp2_with (go_at_call 34; (with_reducible refine CL.out.mono ?_); rintro r w4 ⟨rfl, rfl⟩)
              go_roundw
              case rel => exact ⟨i + 1, _, _, _, _, _, _, by omega, rfl, rfl, by go_num, N.drop, Lib.hid HC.out.same⟩
              case measure => simp [intOf]; omega
        · as_aux_lemma =>
            go_wp2_with (go_at_call 34; (with_reducible refine CL.out.mono ?_); rintro r w4 ⟨rfl, rfl⟩)
            by_cases hk : 0 ≤ p.k ∧ p.k < (L.length : Int)
            · by_cases h128 : L.length < 128
              · obtain ⟨kk, hkk⟩ : ∃ kk : Nat, p.k = (kk : Int) := ⟨p.k.toNat, by omega⟩
                have hkl : kk < L.length := by omega
                obtain ⟨m, hm9⟩ : ∃ m, L[kk]? = some m := ⟨L[kk], List.getElem?_eq_getElem hkl⟩
                obtain ⟨q, hq, eq9⟩ := HC.out.was m (List.mem_of_getElem? hm9)
                have hml : m.l.length ≤ 20 := by rw [← eq9.2]; simpa using H20.out q (List.mem_of_mem_take hq)
                clear hq eq9
                have hX := N1.evs.len
                have ct := ntwice_ok kk m hm9 (by omega) N1 (by omega)
                rw [← hkk] at ct
                refine ct.mono ?_
                have HM9 := Lib.hid hm9
                clear ct N1 CL HE q1 f0 f1 l0 l1 hm9 hkk hk hX
                rintro r w5 ⟨rfl, s5, X5, N, -⟩
                obtain ⟨n5, hn5, hn6, hn7⟩ : ∃ n5, L.length ≤ n5 ∧ n5 ≤ L.length + 1 ∧ L.length + 1 = n5 := ⟨_, by omega, by omega, rfl⟩
                obtain ⟨A5, c5, rfl⟩ := N.norm n5 (by rw [List.length_append, ← hn7]; rfl)
                have g6 : ((n5 : Int) != put + 1 - gone) = false := by have := HC.out.len; simp; omega
                have g7 : decide ((128 : Int) < (n5 : Int)) = false := decide_eq_false (by omega)
                clear hn7
                have CL := Lib.hid (nlen w.heap.size A5 n5 c5 C w5 N.blk)
                go_upto_region 42 with (go_at_call 34; (with_reducible refine CL.out.mono ?_); rintro r w4 ⟨rfl, rfl⟩)
                obtain ⟨pu, hpu⟩ : ∃ pu, put + 1 = pu := ⟨_, rfl⟩
                rw [hpu] at g6 ⊢
                have g3 : 0 ≤ pu := by omega
                have g4 : pu ≤ 251 := by omega
                have HPU := Lib.hid hpu
                clear hpu
                go_wp2_with (go_at_call 34; (with_reducible refine CL.out.mono ?_); rintro r w4 ⟨rfl, rfl⟩)
                go_roundw
                case rel => exact ⟨i + 1, _, _, _, _, pu, _, by omega, rfl, rfl, by go_num, N.drop, Lib.hid (HC.out.twice (List.mem_of_getElem? HM9.out) h128 _ HPU.out.symm)⟩
                case measure => simp [intOf]; omega
              · refine (ntwice_full p.k A1 L.length c1 N1.blk (decide_eq_true hk) (by omega)).mono ?_
                clear HE q1 f0 f1 l0 l1
                rintro r w5 ⟨rfl, rfl⟩
                have N := N1
                clear N1
                go_wp2_with (go_at_call 34; (with_reducible refine CL.out.mono ?_); rintro r w4 ⟨rfl, rfl⟩)
                go_roundw
                case rel => exact ⟨i + 1, _, _, _, _, _, _, by omega, rfl, rfl, by go_num, N.drop, Lib.hid HC.out.same⟩
                case measure => simp [intOf]; omega

            · refine (ntwice_none p.k A1 L.length c1 N1.blk (decide_eq_false hk)).mono ?_
              clear HE q1 f0 f1 l0 l1
              rintro r w5 ⟨rfl, rfl⟩
              have N := N1
              clear N1
              go_wp2_with (go_at_call 34; (with_reducible refine CL.out.mono ?_); rintro r w4 ⟨rfl, rfl⟩)
              go_roundw
              case rel => exact ⟨i + 1, _, _, _, _, _, _, by omega, rfl, rfl, by go_num, N.drop, Lib.hid HC.out.same⟩
              case measure => simp [intOf]; omega
        · as_aux_lemma =>
            go_wp2_with (go_at_call 34; (with_reducible refine CL.out.mono ?_); rintro r w4 ⟨rfl, rfl⟩)
            by_cases hg : regE p.k = true ∧ regE p.j = true ∧ p.k ≠ p.j
            · obtain ⟨hk, hj, hkj⟩ := hg
              obtain ⟨ki, hki, ek⟩ := regE_out hk
              obtain ⟨ji, hji, ej⟩ := regE_out hj
              have ct := ncutN N1 ki ji hki hji (by omega)
              rw [← ek, ← ej] at ct
              have hcd : ∀ L, putC L (cutSet (cutSet C (ki * 6 + ji) true) (ji * 6 + ki) true) ⟨2, p.k, p.j, Vec.zero, [], 9, 1⟩ = 0 ∧ putL L (cutSet (cutSet C (ki * 6 + ji) true) (ji * 6 + ki) true) ⟨2, p.k, p.j, Vec.zero, [], 9, 1⟩ = L := fun L => putC_cutd L _ _ (may_ask p.k p.j hk hj hkj) (by
                have : cutI ⟨2, p.k, p.j, Vec.zero, [], 9, 1⟩ = ki * 6 + ji := by simp [cutI, ek, ej]
                rw [this]
                simp [cutSet])
              have HCD := Lib.hid hcd
              refine ct.mono ?_
              clear ct hcd N1 CL HE q1 f0 f1 l0 l1 ek ej hk hj hkj
              rintro r w5 ⟨rfl, N, -⟩
              obtain ⟨-, -, q1, f1, -⟩ := N.T.rules
              obtain ⟨-, l1, -⟩ := N.T.lts
              go_wp2_with fail
              have N2 := N.push (t := 48) (cs := mcA ⟨2, p.k, p.j, Vec.zero, .slice none 0 0, 9, 1⟩) rfl
              have cp := nput ⟨2, p.k, p.j, Vec.zero, [], 9, 1⟩ (askMs_ok HSI.out.k HSI.out.j) none 0 (erows_none _ _) (Nat.le_refl _) (by decide) (Nat.zero_le _) N2
              rw [(HCD.out L).1, (HCD.out L).2] at cp
              refine cp.mono ?_
              clear cp N N2 HCD q1 f1 l1
              rintro r w6 ⟨rfl, s6, X6, N, -⟩
              obtain ⟨A6, c6, rfl⟩ := N.norm L.length rfl
              have CL := Lib.hid (nlen w.heap.size A6 L.length c6 _ w6 N.blk)
              replace N := N.drop
              go_wp2_with (go_at_call 34; (with_reducible refine CL.out.mono ?_); rintro r w4 ⟨rfl, rfl⟩)
              go_roundw
              case rel => exact ⟨i + 1, _, _, _, _, _, _, by omega, rfl, rfl, by go_num, N.drop, Lib.hid HC.out.same⟩
              case measure => simp [intOf]; omega

            · refine (ncut_bad w.heap.size p.k p.j (by
                cases h1 : regE p.k with
                | false => exact .inl rfl
                | true =>
                  cases h2 : regE p.j with
                  | false => exact .inr (.inl ⟨rfl, rfl⟩)
                  | true => exact .inr (.inr ⟨rfl, rfl, by
                      rw [beq_iff_eq]
                      exact Classical.byContradiction fun h3 => hg ⟨h1, h2, h3⟩⟩)) _).mono ?_
              clear HE q1 f0 f1 l0 l1
              rintro r w5 ⟨rfl, rfl⟩
              have N := N1
              clear N1
              go_wp2_with (go_at_call 34; (with_reducible refine CL.out.mono ?_); rintro r w4 ⟨rfl, rfl⟩)
              go_roundw
              case rel => exact ⟨i + 1, _, _, _, _, _, _, by omega, rfl, rfl, by go_num, N.drop, Lib.hid HC.out.same⟩
              case measure => simp [intOf]; omega
        · as_aux_lemma =>
            go_wp2_with (go_at_call 34; (with_reducible refine CL.out.mono ?_); rintro r w4 ⟨rfl, rfl⟩)
            refine (nhealN N1).mono ?_
            clear N1 CL HE q1 f0 f1 l0 l1
            rintro r w5 ⟨rfl, N, -⟩
            have CL := Lib.hid (nlen w.heap.size A1 L.length c1 _ w5 N.blk)
            go_wp2_with (go_at_call 34; (with_reducible refine CL.out.mono ?_); rintro r w4 ⟨rfl, rfl⟩)
            go_roundw
            case rel => exact ⟨i + 1, _, _, _, _, _, _, by omega, rfl, rfl, by go_num, N.drop, Lib.hid HC.out.same⟩
            case measure => simp [intOf]; omega
      · obtain rfl : i = P.length := by omega
        go_wp2_with fail
        refine (works23 _).mono ?_
        rintro r w2 ⟨rfl, hb⟩
        have T := N.T.call hb
        clear N
        go_wp2_with fail
        go_ret
        exact ⟨rfl, T.below⟩
end Go.Proofs.Ytnhjphmcdamoaaa
