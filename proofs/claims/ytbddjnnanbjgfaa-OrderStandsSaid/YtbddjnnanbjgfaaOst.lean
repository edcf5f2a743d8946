/-
  The walk of OrderStands.
-/
import Derived.Test.YtbddjnnanbjgfaaOL
import Derived.Test.YtbddjnnanbjgfaaOstP
import Derived.Test.YtbddjnnanbjgfaaOwn2
import Derived.Test.YtbddjnnanbjgfaaLz2
namespace Go.Proofs.Ytbddjnnanbjgfaa
set_option linter.unusedVariables false
set_option linter.unusedSimpArgs false
open Go.RowKit

/-- Of the first k no two are unlike of one region and number. -/
def LikeTo (L : List Ev) (k : Nat) : Prop := ∀ (a b : Nat) (x y : Ev), b < a → a < k → L[a]? = some x → L[b]? = some y → x.o = y.o → x.s = y.s → x = y
def LikeAt (L : List Ev) (k : Nat) (x : Ev) (p : Nat) : Prop := ∀ (b : Nat) (y : Ev), b < p → L[b]? = some y → x.o = y.o → x.s = y.s → x = y
theorem like_of {L : List Ev} (h : LikeTo L L.length) : Like L := fun x hx y hy h1 h2 => by
  obtain ⟨a, ha⟩ := List.getElem?_of_mem hx
  obtain ⟨b, hb⟩ := List.getElem?_of_mem hy
  have hal := (List.getElem?_eq_some_iff.1 ha).1
  have hbl := (List.getElem?_eq_some_iff.1 hb).1
  by_cases hab : a = b
  · subst hab; rw [ha] at hb; exact Option.some.inj hb
  · by_cases hlt : b < a
    · exact h a b x y hlt hal ha hb h1 h2
    · exact (h b a y x (by omega) hbl hb ha h1.symm h2.symm).symm
theorem rd_blk2 {w : World} {g : Nat} {t : TypeId} {x y : Ev} (h : Blk w g t (ecells [x, y]).toArray) : ERows w (g + 1) (some ⟨g, 0, none⟩) [x, y] := by
  refine ⟨ecells_length _, fun _ => ⟨g, 0, rfl, by omega, fun j u hu => ?_⟩⟩
  rw [h.cell, Nat.zero_add]
  simpa using hu
set_option maxRecDepth 100000 in
set_option maxHeartbeats 8000000 in
theorem ostands_law (A : Option Addr) (c : Nat) (L : List Ev) (n : Int) (n0 : 0 ≤ n) (n1 : n ≤ 255) (w : World) (hL : ERows w w.heap.size A L) (hc : L.length ≤ c) (hm : c ≤ maxLen) (okL : ∀ e ∈ L, e.ok) :
    Calls Try.prog 6 #[.slice A L.length c, .int .u8 n] w fun r w' => r = .returned (.bool true) ∧ Below w.heap.size w w' := by
  have hm1 : c ≤ 9223372036854775807 := hm
  by_cases hn : 100 < L.length
  · go_enter Try.func6, Try.ntmps6
    go_wp2_with (go_at_call 28; (refine (works10 _).mono ?_); rintro r w1 ⟨rfl, hb⟩)
    go_ret
    exact ⟨rfl, hb⟩
  have HL := Lib.hid hL
  have OK := Lib.hid okL
  have hS := osort A c L w.heap.size w hL (Nat.le_refl _) hc hm (by omega) okL
  have hsl : (sortS L).length ≤ L.length := (runS_len L).2
  have hF := sort_facts L
  have hEnd := sortS_end L
  have hB := fun hu => sort_back L n.toNat hu
  obtain ⟨S, hSe⟩ : ∃ S, S = sortS L := ⟨_, rfl⟩
  rw [← hSe] at hS hsl hF hEnd hB
  have C1 := Lib.hid hS
  have HF := Lib.hid hF
  have HE := Lib.hid hEnd
  have HBK := Lib.hid hB
  have hne : ((S.length : Int) + ((L.length : Int) - (S.length : Int)) != (L.length : Int)) = false := by
    rw [show (S.length : Int) + ((L.length : Int) - (S.length : Int)) = L.length from by omega]; simp
  have hne2 : ((L.length : Int) != (L.length : Int)) = false := by simp
  clear hL okL hS hF hEnd hB hSe
  go_enter Try.func6, Try.ntmps6
  go_wp2_with fail
  refine C1.out.mono ?_
  rintro r w2 ⟨u2, rfl, hown2, hb2⟩
  obtain ⟨A2, c2, rfl, hc2, hm2, hR2⟩ := own_open hown2
  have hm2' : c2 ≤ 9223372036854775807 := hm2
  have HS : Hid (ERows w2 w2.heap.size A2 S) := Lib.hid hR2
  have HL2 := Lib.hid (HL.out.below hb2)
  have hz2 := hb2.size
  clear hown2 hR2 C1
  go_wp2_with fail
  go_loopw [8] (fun i wr => ∃ k : Nat, k ≤ S.length ∧ i = .int .i64 k ∧ Trk w2 wr [(w2.heap.size, 24, vecA (runS L k).1)]) (fun i _ => S.length - (intOf i).toNat)
  case atStart => exact ⟨0, by omega, rfl, (Trk.nil w2).push rfl⟩
  case round =>
    obtain ⟨k, hk, rfl, T⟩ := hrel
    by_cases hlt : k < S.length
    · obtain ⟨e, he⟩ : ∃ e, S[k]? = some e := ⟨S[k], List.getElem?_eq_getElem hlt⟩
      obtain ⟨j, hj, ho, hs1, hs2, hvj, hdep, hmem, hnext⟩ := HF.out k e he
      have okv := (runS_facts L k).1
      have oke := OK.out e hmem
      generalize hv : (runS L k).1 = v at T hvj hdep hnext okv
      have HN := Lib.hid hnext
      have HD := Lib.hid hdep
      obtain ⟨b1, o1, rfl, hb1, x0, x1, x2, x3, x4, x5, x6, x7, x8, x9, x10, x11, x12, x13⟩ := ERows.at_ (HS.out.below T.below) he
      have hbz : b1 < wr.heap.size := Nat.lt_of_lt_of_le hb1 T.below.size
      have i1 : (0 : Int) ≤ (k : Int) := by omega
      have i2 : (k : Int) < (S.length : Int) := by omega
      have HE2 := Lib.hid he
      clear he hnext hdep hv
      have d1 : decide (e.o < 1) = false := by simp; omega
      have d2 : decide (6 < e.o) = false := by simp; omega
      have o1' : IntKind.i64.wrap (e.o - 1) = (j : Int) := by rw [ho]; simp; exact IntWalk.i64_in _ (by omega)
      have j1 : (0 : Int) ≤ (j : Int) := by omega
      have j2 : (j : Int) < 6 := by omega
      have gj := vecA_get v j hj
      have hw1 : IntKind.u64.wrap (v.get j + 1) = e.s := by rw [hvj]; simp; exact IntWalk.u64_in _ (by omega)
      have HO := Lib.hid ho
      have HVJ := Lib.hid hvj
      clear ho hvj
      go_wp2_with fail
      have T1 := T.push (t := 44) (cs := evA e) rfl
      generalize hg9 : wr.heap.size = g9 at T1 ⊢
      generalize wr.alloc (.cells (evA e) 44) = w3 at T1 ⊢
      clear x0 x1 x2 x3 x4 x5 x6 x7 x8 x9 x10 x11 x12 x13
      obtain ⟨q9, -, q7, -, -⟩ := T1.rules
      obtain ⟨l9, l7, -⟩ := T1.lts
      go_quiet (fail)
      have T2 := T1.drewN nq
      generalize w3.drewN nq = w4 at T2 ⊢
      clear q9 q7 l9 l7 T1
      go_wp2_with fail
      go_loopw [10] (fun i w5 => ∃ p : Nat, p ≤ 6 ∧ i = .int .i64 p ∧ Trk w2 w5 [(g9, 44, evA e), (w2.heap.size, 24, vecA v)]) (fun i _ => 6 - (intOf i).toNat)
      case atStart => exact ⟨0, by omega, rfl, T2⟩
      case round =>
        obtain ⟨p, hp, rfl, T3⟩ := hrel
        clear T2
        obtain ⟨q9, -, q7, f7, -⟩ := T3.rules
        obtain ⟨l9, l7, -⟩ := T3.lts
        by_cases hp6 : p < 6
        · have hle := HD.out p hp6
          have hd : decide (v.get p < e.d.get p) = false := by simp; omega
          have p1 : (0 : Int) ≤ (p : Int) := by omega
          have p2 : (p : Int) < 6 := by omega
          have g1 := evA_dep e p hp6
          have g2 := vecA_get v p hp6
          clear hle
          go_wp2_with fail
          go_quiet (fail)
          have T4 := T3.drewN nq
          go_wp2_with fail
          go_roundw
          case rel => exact ⟨p + 1, by omega, by go_num, T4⟩
          case measure => simp [intOf]; omega
        · obtain rfl : p = 6 := by omega
          have HST := Lib.hid (vecA_set v j e.s hj)
          go_wp2_with fail
          have T4 := ((T3.perm (cs := [(w2.heap.size, 24, vecA v)]) (by simp)).set_ (Nat.le_refl _) trivial j (.int .u64 e.s))
          rw [HST.out] at T4
          go_roundw
          case rel =>
            refine ⟨k + 1, by omega, by go_num, ?_⟩
            have e1 : (runS L (k + 1)).1 = v.set j e.s := by
              rw [HN.out]
              unfold incV
              rw [show (v.get j + 1) % 18446744073709551616 = e.s from by have := HVJ.out; omega]
            rw [e1]
            exact T4
          case measure => simp [intOf]; omega
    · obtain rfl : k = S.length := by omega
      have hEND := HE.out
      have okV := (runS_facts L S.length).1
      generalize (runS L S.length).1 = V at T hEND okV
      have HEND := Lib.hid hEND
      clear hEND HE HF
      go_wp2_with fail
      go_loopw [11] (fun i wr2 => ∃ k : Nat, k ≤ L.length ∧ i = .int .i64 k ∧ LikeTo L k ∧ Trk w2 wr2 [(w2.heap.size, 24, vecA V)]) (fun i _ => L.length - (intOf i).toNat)
      case atStart => exact ⟨0, by omega, rfl, fun a b x y _ h => absurd h (by omega), T⟩
      case round =>
        obtain ⟨k, hk, rfl, hlike, T2⟩ := hrel
        clear T
        have HLK := Lib.hid hlike
        clear hlike
        by_cases hlt : k < L.length
        · obtain ⟨x, hx⟩ : ∃ x, L[k]? = some x := ⟨L[k], List.getElem?_eq_getElem hlt⟩
          have hmx := List.mem_of_getElem? hx
          have C2 := Lib.hid (oready' V x (OK.out x hmx) false (HEND.out x hmx))
          obtain ⟨b1, o1, rfl, hb1, x0, x1, x2, x3, x4, x5, x6, x7, x8, x9, x10, x11, x12, x13⟩ := ERows.at_ (HL2.out.below (T2.below.mono hz2)) hx
          have hbz : b1 < w2.heap.size := Nat.lt_of_lt_of_le hb1 hz2
          have hbz2 : b1 < wr.heap.size := Nat.lt_of_lt_of_le hbz T2.below.size
          have i1 : (0 : Int) ≤ (k : Int) := by omega
          have i2 : (k : Int) < (L.length : Int) := by omega
          have HX := Lib.hid hx
          clear hx hmx
          obtain ⟨q7, -, -⟩ := T2.rules
          have l7 := T2.lt
          go_wp2_with fail
          refine wp_region_later (by kernel_rfl) (by kernel_rfl) ?_
          repeat (go_big_quiet_step (first | (go_at_call 31; with_reducible exact Calls.later (C2.out _))))
          refine wpQuiet_nil ?_
          rintro w3 ⟨y, rfl⟩
          have T3 := T2.call y.below
          generalize y.w = w3 at T3
          clear y x0 x1 x2 x3 x4 x5 x6 x7 x8 x9 x10 x11 x12 x13 q7 l7 T2 hbz2
          go_wp2_with fail
          go_loopw [12] (fun i w4 => ∃ p : Nat, p ≤ k ∧ i = .int .i64 p ∧ LikeAt L k x p ∧ Trk w2 w4 [(w2.heap.size, 24, vecA V)]) (fun i _ => k - (intOf i).toNat)
          case atStart => exact ⟨0, by omega, rfl, fun b y h => absurd h (by omega), T3⟩
          case round =>
            obtain ⟨p, hp, rfl, hla, T4⟩ := hrel
            clear T3
            have HLA := Lib.hid hla
            clear hla
            by_cases hpk : p < k
            · obtain ⟨y, hy⟩ : ∃ y, L[p]? = some y := ⟨L[p]'(by omega), List.getElem?_eq_getElem (by omega)⟩
              have HROW := Lib.hid (HL2.out.below (T4.below.mono hz2))
              obtain ⟨b3, o3, hA3, hb3, x0, x1, x2, x3, x4, x5, x6, x7, x8, x9, x10, x11, x12, x13⟩ := ERows.at_ HROW.out HX.out
              obtain ⟨rfl, rfl⟩ : b1 = b3 ∧ o1 = o3 := by simpa using hA3
              obtain ⟨b4, o4, hA4, hb4, y0, y1, y2, y3, y4, y5, y6, y7, y8, y9, y10, y11, y12, y13⟩ := ERows.at_ HROW.out hy
              obtain ⟨rfl, rfl⟩ : b1 = b4 ∧ o1 = o4 := by simpa using hA4
              have hbz4 : b1 < wr.heap.size := Nat.lt_of_lt_of_le hbz T4.below.size
              have p1 : (0 : Int) ≤ (p : Int) := by omega
              have p2 : (p : Int) < (L.length : Int) := by omega
              have HYY := Lib.hid hy
              clear hA3 hA4 hb3 hb4 hy HROW
              by_cases h1 : x.o = y.o
              · have e1 : (x.o == y.o) = true := by rw [beq_iff_eq]; exact h1
                have H1 := Lib.hid h1
                clear h1
                by_cases h2 : x.s = y.s
                · have e2 : (x.s == y.s) = true := by rw [beq_iff_eq]; exact h2
                  have H2 := Lib.hid h2
                  clear h2
                  by_cases h3 : x = y
                  · have e3 : decide (x = y) = true := decide_eq_true h3
                    have H3 := Lib.hid h3
                    clear h3
                    go_wp2_with fail
                    go_quiet (fail)
                    have T5 := T4.drewN nq
                    go_wp2_with fail
                    go_roundw
                    case rel => exact ⟨p + 1, by omega, by go_num, fun b z hbp hz g1 g2 => if hbe : b = p then by
                        subst hbe; rw [HYY.out] at hz; obtain rfl := Option.some.inj hz; exact H3.out
                      else HLA.out b z (by omega) hz g1 g2, T5⟩
                    case measure => simp [intOf]; omega
                  · have e3 : decide (x = y) = false := decide_eq_false h3
                    clear h3
                    go_wp2_with fail
                    go_quiet (fail)
                    have T5 := T4.drewN nq
                    generalize wr.drewN nq = w5 at T5 ⊢
                    go_wp2_with fail
                    refine (works10 _).mono ?_
                    rintro r w6 ⟨rfl, hb6⟩
                    have T6 := T5.call hb6
                    go_wp2_with fail
                    go_ret
                    exact ⟨rfl, hb2.trans (T6.below.mono hz2)⟩
                · have e2 : (x.s == y.s) = false := by rw [beq_eq_false_iff_ne]; exact h2
                  have H2 := Lib.hid h2
                  clear h2
                  go_wp2_with fail
                  go_quiet (fail)
                  have T5 := T4.drewN nq
                  go_wp2_with fail
                  go_roundw
                  case rel => exact ⟨p + 1, by omega, by go_num, fun b z hbp hz g1 g2 => if hbe : b = p then by
                      subst hbe; rw [HYY.out] at hz; obtain rfl := Option.some.inj hz; exact absurd g2 H2.out
                    else HLA.out b z (by omega) hz g1 g2, T5⟩
                  case measure => simp [intOf]; omega
              · have e1 : (x.o == y.o) = false := by rw [beq_eq_false_iff_ne]; exact h1
                have H1 := Lib.hid h1
                clear h1
                go_wp2_with fail
                go_quiet (fail)
                have T5 := T4.drewN nq
                go_wp2_with fail
                go_roundw
                case rel => exact ⟨p + 1, by omega, by go_num, fun b z hbp hz g1 g2 => if hbe : b = p then by
                    subst hbe; rw [HYY.out] at hz; obtain rfl := Option.some.inj hz; exact absurd g1 H1.out
                  else HLA.out b z (by omega) hz g1 g2, T5⟩
                case measure => simp [intOf]; omega
            · obtain rfl : p = k := by omega
              go_wp2_with fail
              go_roundw
              case rel => exact ⟨p + 1, by omega, by go_num, fun a b z u hba hap hz hu g1 g2 => if hae : a = p then by
                  subst hae; rw [HX.out] at hz; obtain rfl := Option.some.inj hz; exact HLA.out b u hba hu g1 g2
                else HLK.out a b z u hba (by omega) hz hu g1 g2, T4⟩
              case measure => simp [intOf]; omega
        · obtain rfl : k = L.length := by omega
          have HLIKE := Lib.hid (like_of HLK.out)
          have hbk := HBK.out HLIKE.out
          have HB2 := Lib.hid hbk
          clear hbk HLK HLIKE HBK HEND
          obtain ⟨t, ht⟩ : ∃ t : Nat, n = (t : Int) := ⟨n.toNat, by omega⟩
          have htn : n.toNat = t := by omega
          rw [htn] at HB2
          clear htn
          have ht1 : t ≤ 255 := by omega
          subst ht
          go_wp2_with fail
          go_loopw [13, 14] (fun u i wr3 => ∃ k : Nat, k ≤ L.length ∧ i = .int .i64 k ∧ wr3.ownsRow (w2.heap.size + 1) 44 14 u (backL L t k).length (ecells (backL L t k)) ∧ Trk w2 wr3 [(w2.heap.size, 24, vecA V)]) (fun _ i _ => L.length - (intOf i).toNat)
          case atStart => exact ⟨0, by omega, rfl, World.ownsRow_nil _ _ _ _, T2⟩
          case round =>
            obtain ⟨k, hk, rfl, hown, T3⟩ := hrel
            clear T2
            by_cases hlt : k < L.length
            · obtain ⟨a, ha⟩ : ∃ a, a = L.length - 1 - k := ⟨_, rfl⟩
              obtain ⟨q, hq⟩ : ∃ q, q = (k * 7 + t) % L.length := ⟨_, rfl⟩
              have haL : a < L.length := by omega
              have hqL : q < L.length := by rw [hq]; exact Nat.mod_lt _ (by omega)
              obtain ⟨x, hx⟩ : ∃ x, L[a]? = some x := ⟨L[a], List.getElem?_eq_getElem haL⟩
              obtain ⟨y, hy⟩ : ∃ y, L[q]? = some y := ⟨L[q], List.getElem?_eq_getElem hqL⟩
              have hsn : backL L t (k + 1) = backL L t k ++ [x, y] := by
                show backL L t k ++ [L.getD (L.length - 1 - k) Ev.zero, L.getD ((k * 7 + t) % L.length) Ev.zero] = _
                rw [← ha, ← hq, getD_of hx, getD_of hy]
              have hbl : (backL L t k).length ≤ 200 := by rw [backL_length]; omega
              generalize backL L t k = Bk at hown hsn hbl
              have HSN := Lib.hid hsn
              have HROW := Lib.hid (HL2.out.below (T3.below.mono hz2))
              obtain ⟨b1, o1, rfl, hb1, x0, x1, x2, x3, x4, x5, x6, x7, x8, x9, x10, x11, x12, x13⟩ := ERows.at_ HROW.out hx
              obtain ⟨b4, o4, hA4, hb4, y0, y1, y2, y3, y4, y5, y6, y7, y8, y9, y10, y11, y12, y13⟩ := ERows.at_ HROW.out hy
              obtain ⟨rfl, rfl⟩ : b1 = b4 ∧ o1 = o4 := by simpa using hA4
              have hbz2 : b1 < wr.heap.size := Nat.lt_of_lt_of_le (Nat.lt_of_lt_of_le hb1 hz2) T3.below.size
              have q0 : ((k : Int) * 7 + (t : Int)) % (L.length : Int) = (q : Int) := by rw [hq, Int.natCast_emod]; congr 1
              have q1 : Int.tmod ((k : Int) * 7 + (t : Int)) (L.length : Int) = (q : Int) := by rw [Int.tmod_eq_emod_of_nonneg (by omega)]; exact q0
              have q2 : (0 : Int) ≤ (q : Int) := by omega
              have q3 : (q : Int) < (L.length : Int) := by omega
              have a0 : IntKind.i64.wrap ((L.length : Int) - 1) = (L.length : Int) - 1 := IntWalk.i64_in _ (by omega)
              have a1 : IntKind.i64.wrap ((L.length : Int) - 1 - (k : Int)) = (a : Int) := by rw [show (L.length : Int) - 1 - (k : Int) = (a : Int) from by omega]; exact IntWalk.i64_in _ (by omega)
              have a2 : (0 : Int) ≤ (a : Int) := by omega
              have a3 : (a : Int) < (L.length : Int) := by omega
              have l1 : (0 : Int) < (L.length : Int) := by omega
              have HXA := Lib.hid hx
              have HYQ := Lib.hid hy
              clear hx hy hsn hA4 hb4 HROW ha hq
              go_wp2_with fail
              obtain ⟨A3, c3, rfl, -⟩ := own_open hown
              have hHL2 := HL2.out
              have hcell : ∀ W, Below wr.heap.size wr W → ∀ (i : Nat) (e : Ev), L[i]? = some e → b1 < W.heap.size ∧ EvAt W b1 (o1 + i * 14) e := fun W hW i e hi => by
                obtain ⟨b9, o9, hA9, hb9, hev⟩ := ERows.at_ (hHL2.below ((T3.below.trans (hW.mono T3.below.size)).mono hz2)) hi
                obtain ⟨rfl, rfl⟩ : b1 = b9 ∧ o1 = o9 := by simpa using hA9
                exact ⟨Nat.lt_of_lt_of_le hbz2 hW.size, hev⟩
              have HCC := Lib.hid hcell
              clear hcell hHL2 x0 x1 x2 x3 x4 x5 x6 x7 x8 x9 x10 x11 x12 x13 y0 y1 y2 y3 y4 y5 y6 y7 y8 y9 y10 y11 y12 y13
              refine wp_region_post 14 [.is (.slice A3 Bk.length c3), .is (.slice (some ⟨b1, o1, none⟩) L.length c), .is (.slice (some ⟨b1, o1, none⟩) L.length c), .is (.int .i64 (L.length : Int)), .is (.int .i64 ((L.length : Int) - 1)), .is (.int .i64 (k : Int)), .is (.int .i64 (a : Int)), .is (.pointer (some ⟨b1, o1 + a * 14, none⟩)), .is (.agg (evA x)), .is (.slice (some ⟨b1, o1, none⟩) L.length c), .is (.int .i64 (q : Int)), .is (.pointer (some ⟨b1, o1 + q * 14, none⟩)), .is (.agg (evA y)), .rel (TwoEv x y) (TwoEv.keep x y)] (by kernel_rfl) (by simp) (by kernel_rfl) (by kernel_rfl) (by kernel_rfl) (by kernel_rfl) ?_
              simp only [List.take_succ_cons, List.take_zero, List.drop_succ_cons, List.drop_zero]
              iterate 13
                first
                  | refine lw_move rfl _ rfl _ rfl rfl ?_
                  | ((refine lw_val rfl _ rfl ?_ ?_); (· intro W hW; simp [execOp, go_sem, a0, a1, a2, a3, q2, q3]; done))
                  | ((refine lw_val rfl _ rfl ?_ ?_); (· intro W hW; obtain ⟨z, x0, x1, x2, x3, x4, x5, x6, x7, x8, x9, x10, x11, x12, x13⟩ := HCC.out W hW a x HXA.out; simp [execOp, go_sem, z, x0, x1, x2, x3, x4, x5, x6, x7, x8, x9, x10, x11, x12, x13]; done))
                  | ((refine lw_val rfl _ rfl ?_ ?_); (· intro W hW; obtain ⟨z, x0, x1, x2, x3, x4, x5, x6, x7, x8, x9, x10, x11, x12, x13⟩ := HCC.out W hW q y HYQ.out; simp [execOp, go_sem, z, x0, x1, x2, x3, x4, x5, x6, x7, x8, x9, x10, x11, x12, x13]; done))
                simp only [Act.put, List.setIfInBounds_toArray, List.set_cons_succ, List.set_cons_zero]
              refine lw_two rfl _ _ rfl x y rfl rfl rfl ?_
              intro z
              intro w4 hb4 hF
              obtain ⟨g, rfl, hBg⟩ : TwoEv x y z w4 := hF 13 z (Or.inl ⟨rfl, rfl⟩)
              have T4 := T3.call hb4
              have hown4 := ownsRow_below hown hb4
              clear hF T3 hown hb4 HCC
              refine append_evs _ rfl (.tmp 149) (.tmp 162) rfl (w2.heap.size + 1) _ Bk [x, y] rfl hown4 (some ⟨g, 0, none⟩) 2 (g + 1) rfl (rd_blk2 hBg) (by simp; omega) T4.lt ?_
              intro v' w' hown' hb'
              go_wp2_with fail
              go_roundw
              case rel =>
                refine ⟨k + 1, by omega, by go_num, by rw [HSN.out]; exact hown', ?_⟩
                exact T4.callB hb' (Nat.le_succ _) ⟨by omega, trivial⟩
              case measure => simp [intOf]; omega
            · obtain rfl : k = L.length := by omega
              have hbl0 := backL_length L t L.length
              have hsub := backL_sub L t L.length (Nat.le_refl _)
              have hbk := HB2.out
              generalize backL L t L.length = Bk at hown hbl0 hsub hbk
              obtain ⟨A3, c3, rfl, hc3, hm3, hR3⟩ := own_open hown
              have hbl : Bk.length ≤ 200 := by omega
              have cs := osort A3 c3 Bk wr.heap.size wr hR3 (Nat.le_refl _) hc3 hm3 (by omega) (fun e he => OK.out e (hsub e he))
              rw [hbk] at cs
              have CS := Lib.hid cs
              have HSW := Lib.hid ((HS.out.below T3.below).mono T3.below.size)
              clear cs hbk hsub hR3 hown HB2 hbl0
              go_wp2_with fail
              refine CS.out.mono ?_
              rintro r w5 ⟨u5, rfl, hown5, hb5⟩
              obtain ⟨A5, c5, rfl, hc5, hm5, hR5⟩ := own_open hown5
              have T5 := T3.call hb5
              have c7 := rsame10 A5 A2 c5 c2 w5.heap.size S S w5 hR5 (Rd.next HSW.out hb5) (Nat.le_refl _) hc5 hm5 hc2 hm2
              simp only [decide_true] at c7
              have C7 := Lib.hid c7
              clear c7 hown5 hR5 hb5 HSW CS
              go_wp2_with fail
              refine C7.out.mono ?_
              rintro r w6 ⟨rfl, hb6⟩
              have T6 := T5.call hb6
              clear hb6
              go_wp2_with fail
              refine (works10 _).mono ?_
              rintro r w7 ⟨rfl, hb7⟩
              have T7 := T6.call hb7
              go_wp2_with fail
              go_ret
              exact ⟨rfl, hb2.trans (T7.below.mono hz2)⟩
end Go.Proofs.Ytbddjnnanbjgfaa
