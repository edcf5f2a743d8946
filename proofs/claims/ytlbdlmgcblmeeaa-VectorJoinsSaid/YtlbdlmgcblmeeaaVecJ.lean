/-
  The walk of VectorJoins.
-/
import Derived.Test.YtlbdlmgcblmeeaaVecP
namespace Go.Proofs.Ytlbdlmgcblmeeaa
open Go.RowKit

theorem info_vec : (Try.prog.info? 25).map (fun i => (i.zero, i.size, i.bytes)) = some (some (.agg #[.int .u64 0, .int .u64 0, .int .u64 0, .int .u64 0, .int .u64 0, .int .u64 0]), 6, 48) := by kernel_rfl
theorem append_vec {ops : Array Oper} {rest : List Oper} {o : Oper} {a : Act} {Q : Exit → Act → World → Prop} (w : World) (hgd : o.guard = none) (s x : Operand)
    (ho : o.op = .call { callee := .builtin .append, args := #[s, x], argTypes := #[22, 22] })
    (base : Nat) (v : Value) (L : List Vec) (u : Vec) (hs : a.eval s = v) (hown : w.ownsRow base 25 6 v L.length (vcells L)) (g : Nat) (hx : a.eval x = .slice (some ⟨g, 0, none⟩) 1 1) (hg : Blk w g 25 (vecA u))
    (hn : L.length ≤ 1000000) (hbase : base ≤ w.heap.size)
    (h : ∀ v' w', w'.ownsRow base 25 6 v' (L ++ [u]).length (vcells (L ++ [u])) → Below base w w' → wpList Try.prog ops Q rest (a.put o.dst v') w') : wpList Try.prog ops Q (o :: rest) a w := by
  obtain ⟨i0, hi0, hz0, hz1, hz2⟩ := info_parts info_vec
  refine wpList_append_own w hgd s x 22 ho base 25 i0 (.agg #[.int .u64 0, .int .u64 0, .int .u64 0, .int .u64 0, .int .u64 0, .int .u64 0]) 6 48 Try.underlying22 hi0 hz0 hz1 hz2 rfl (by decide) v L.length (vcells L) hs hown ⟨g, 0, none⟩ 1 1 (vecA u).toList hx rfl ?_ ?_ ?_ ?_ hbase ?_
  · intro j y hy
    have hj : j < 6 := by have := (List.getElem?_eq_some_iff.1 hy).1; exact this
    have hadd : (⟨g, 0, none⟩ : Addr).add j = ⟨g, j, none⟩ := by unfold Addr.add; split <;> simp_all
    rw [hadd, hg.cell j, ← hy, Array.getElem?_toList]
  · intro y hy
    simp only [vecA_toList, List.mem_cons, List.mem_nil_iff, or_false] at hy
    rcases hy with rfl | rfl | rfl | rfl | rfl | rfl <;> rfl
  · unfold maxLen; omega
  · omega
  · intro v' w' hown' hgrow _
    refine h v' w' ?_ ((Below.refl _ _).grown hgrow hbase fun k hk => (hown.lt k hk).1)
    rw [vcells_snoc, List.length_append]
    exact hown'
theorem less_eq' (a b : Vec) (x : Bool) (h : vlessB a b = x) : ∀ w, Calls Try.prog 11 #[.agg (vecA a), .agg (vecA b)] w fun e w' => e = .returned (.bool x) ∧ Below w.heap.size w w' := vless' a b x h

set_option maxHeartbeats 4000000 in
set_option maxRecDepth 100000 in
theorem joins_law (A : Option Addr) (cap : Nat) (L : List Vec) (v : Vec) (A2 : Option Addr) (cap2 : Nat) (bs : List Int) (o s : Int) (w : World)
    (hL : VRows w w.heap.size A L) (hcap : L.length ≤ cap) (hmax : cap ≤ maxLen) (hB : BRows w w.heap.size A2 bs) (hcap2 : bs.length ≤ cap2) (hmax2 : cap2 ≤ maxLen)
    (okL : ∀ u ∈ L, u.ok) (okv : v.ok) (okb : ∀ x ∈ bs, 0 ≤ x ∧ x ≤ 255) :
    Calls Try.prog 3 #[.slice A L.length cap, .agg (vecA v), .slice A2 bs.length cap2, .int .i64 o, .int .u64 s] w fun e w' => e = .returned (.bool true) ∧ Below w.heap.size w w' := by
  have hm1 : cap ≤ 9223372036854775807 := hmax
  have hm2 : cap2 ≤ 9223372036854775807 := hmax2
  by_cases hn : 50 < L.length
  · go_enter Try.func3, Try.ntmps3
    go_wp2_with (go_at_call 8; (refine (works06 _).mono ?_); rintro e w1 ⟨rfl, hb⟩)
    go_ret
    exact ⟨rfl, ((Below.refl _ _).alloc (Nat.le_refl _) _).trans (hb.mono (by simp))⟩
  by_cases hn2 : 100 < bs.length
  · go_enter Try.func3, Try.ntmps3
    go_wp2_with (go_at_call 8; (refine (works06 _).mono ?_); rintro e w1 ⟨rfl, hb⟩)
    go_ret
    exact ⟨rfl, ((Below.refl _ _).alloc (Nat.le_refl _) _).trans (hb.mono (by simp))⟩
  have d1 : decide ((50 : Int) < (L.length : Int)) = false := by simp; omega
  have d2 : decide ((100 : Int) < (bs.length : Int)) = false := by simp; omega
  obtain ⟨J, hJ⟩ : ∃ J, J = Vec.foldV max L := ⟨_, rfl⟩
  obtain ⟨M, hM⟩ : ∃ M, M = Vec.foldV min L := ⟨_, rfl⟩
  have HJ := Lib.hid hJ
  have HM := Lib.hid hM
  clear hJ hM
  go_enter Try.func3, Try.ntmps3
  go_wp2_with fail
  have T0 : Trk w _ _ := (Trk.nil w).push (t := 25) (cs := vecA v) rfl
  refine (Calls.trk (join_any A cap L w.heap.size _ (hL.below T0.below) T0.below.size hcap hmax) T0).mono ?_
  rw [← HJ.out]
  rintro e w1 ⟨rfl, T1', r1, f1, -⟩
  have T1 := T1'.push (t := 25) (cs := vecA J) rfl
  clear r1 f1
  go_wp2_with fail
  refine (Calls.trk (meet_any A cap L w.heap.size _ (hL.below T1.below) T1.below.size hcap hmax) T1).mono ?_
  rw [← HM.out]
  rintro e w2 ⟨rfl, T2', -⟩
  have T2 := T2'.push (t := 25) (cs := vecA M) rfl
  go_wp2_with fail
  go_loopw [13, 14] (fun al i wr => ∃ k : Nat, k ≤ L.length ∧ i = .int .i64 k ∧ al = .bool ((L.take k).all (vlessB · v)) ∧ Trk w wr [(w2.heap.size, 25, vecA M), (w1.heap.size, 25, vecA J), (w.heap.size, 25, vecA v)])
    (fun _ i _ => L.length - (intOf i).toNat)
  case atStart => exact ⟨0, by omega, rfl, rfl, T2⟩
  case round =>
    obtain ⟨k, hk, rfl, rfl, T⟩ := hrel
    clear T0 T1 T1' T2 T2'
    by_cases hlt : k < L.length
    · obtain ⟨b, ob, rfl, hbw, hc⟩ := hL (by rintro rfl; simp at hlt)
      obtain ⟨u, hu⟩ : ∃ u, L[k]? = some u := ⟨L[k], List.getElem?_eq_getElem hlt⟩
      have hmem : u ∈ L := List.mem_of_getElem? hu
      have h6 := sixAt_of (hc k u hu)
      have e1 := vless' u J true (by rw [HJ.out]; exact less_join hmem)
      have e2 := vless' M u true (by rw [HM.out]; exact less_meet hmem)
      have hall : (L.take (k + 1)).all (vlessB · v) = ((L.take k).all (vlessB · v) && vlessB u v) := by
        rw [List.take_add_one, hu]; simp
      have HA := Lib.hid hall
      have e3 := vhas u o s
      have e4 := vhas J o s
      have e5 := vless u v
      have hij : vhasB u o s = true → vhasB J o s = true := fun h => has_join (by rw [HJ.out]; exact less_join hmem) o s h
      generalize (L.take k).all (vlessB · v) = al at hall HA
      generalize vhasB u o s = x1 at e3 hij
      generalize vhasB J o s = x2 at e4 hij
      generalize hx3 : vlessB u v = x3 at e5 HA
      have E1 := Lib.hid e1
      have E2 := Lib.hid e2
      have E3 := Lib.hid e3
      have E4 := Lib.hid e4
      have E5 := Lib.hid e5
      have HX := Lib.hid hij
      have HC := Lib.hid hc
      clear e1 e2 e3 e4 e5 hij hc hall hu hx3 hL hB
      obtain ⟨q0, -, q1, -, q2, -⟩ := T.rules
      obtain ⟨l0, l1, l2, -⟩ := T.lts
      have hbr : b < wr.heap.size := Nat.lt_of_lt_of_le hbw T.below.size
      have h6' := h6.below T.below hbw
      have i1 : (0 : Int) ≤ (k : Int) := by omega
      have i2 : (k : Int) < (L.length : Int) := by omega
      clear hm1 hm2 hcap hmax hcap2 hmax2 d2
      rcases (show (x1 = false) ∨ (x1 = true ∧ x2 = true) from by cases x1 <;> simp_all [HX.out]) with rfl | ⟨rfl, rfl⟩ <;> rcases (show al = false ∨ al = true from by cases al <;> simp) with rfl | rfl
      all_goals
        go_wp2_with fail
        refine wp_region_later (by kernel_rfl) (by kernel_rfl) ?_
        repeat (go_big_quiet_step (first | (go_at_call 11; with_reducible exact Calls.later (E1.out _)) | (go_at_call 11; with_reducible exact Calls.later (E2.out _)) | (go_at_call 12; with_reducible exact Calls.later (E3.out _)) | (go_at_call 12; with_reducible exact Calls.later (E4.out _))))
        refine wpQuiet_nil ?_
        rintro w3 ⟨x, rfl⟩
        have T3 := T.call x.below
        generalize x.w = w3 at T3
        clear x
        obtain ⟨q0, -, q1, -, q2, -⟩ := T3.rules
        obtain ⟨l0, l1, l2, -⟩ := T3.lts
        have hbr3 : b < w3.heap.size := Nat.lt_of_lt_of_le hbw T3.below.size
        have h63 := h6.below T3.below hbw
        go_wp2_with fail
        refine wp_region_later (by kernel_rfl) (by kernel_rfl) ?_
        repeat (go_big_quiet_step (first | (go_at_call 11; with_reducible exact Calls.later (E5.out _))))
        refine wpQuiet_nil ?_
        rintro w4 ⟨x, rfl⟩
        have T4 := T3.call x.below
        generalize x.w = w4 at T4
        clear x
        go_wp2_with fail
        go_roundw
        case rel => exact ⟨k + 1, by omega, by go_num, by rw [HA.out]; rfl, T4⟩
        case measure => simp [intOf]; omega
    · obtain rfl : k = L.length := by omega
      have e6 := vless' J v (L.all (vlessB · v)) (by rw [HJ.out]; exact (all_less L v okv).symm)
      rw [List.take_of_length_le (Nat.le_refl _)]
      generalize L.all (vlessB · v) = al at e6
      have E6 := Lib.hid e6
      clear e6
      obtain ⟨q0, -, q1, -, q2, -⟩ := T.rules
      go_wp2_with (go_at_call 11; (with_reducible refine (Calls.trk (E6.out _) T).mono ?_); rintro e w3 ⟨rfl, T3, -⟩)
      obtain ⟨O, hO⟩ : ∃ O, O = (if L = [] then [] else bs.map fun x => L.getD (x % (L.length : Int)).toNat Vec.zero) := ⟨_, rfl⟩
      have hOl : O.length ≤ bs.length := by rw [hO]; split <;> simp
      have hOk : ∀ k, k < O.length → L ≠ [] ∧ k < bs.length ∧ ∃ x, bs[k]? = some x ∧ 0 ≤ x ∧ x ≤ 255 ∧ ∃ u, L[(x % (L.length : Int)).toNat]? = some u ∧ O[k]? = some u := fun k hk => by
        rw [hO] at hk ⊢
        by_cases hL0 : L = []
        · rw [if_pos hL0] at hk; simp at hk
        · rw [if_neg hL0] at hk ⊢
          simp at hk
          have hx : bs[k]? = some bs[k] := List.getElem?_eq_getElem hk
          obtain ⟨x0, x1⟩ := okb _ (List.getElem_mem hk)
          have hlen : 0 < L.length := List.length_pos_iff.2 hL0
          have h1 : (bs[k] % (L.length : Int)).toNat < L.length := by
            have := Int.emod_nonneg bs[k] (show (L.length : Int) ≠ 0 by omega)
            have := Int.emod_lt_of_pos bs[k] (show (0 : Int) < (L.length : Int) by omega)
            omega
          refine ⟨hL0, hk, bs[k], hx, x0, x1, L[(bs[k] % (L.length : Int)).toNat], List.getElem?_eq_getElem h1, ?_⟩
          rw [List.getElem?_map, hx]
          simp [List.getElem?_eq_getElem h1]
      have hOe : O.length < bs.length → L = [] := fun h => by
        rw [hO] at h
        by_cases hL0 : L = []
        · exact hL0
        · rw [if_neg hL0] at h; simp at h
      have hfin : otherL L bs = O ++ L.reverse := by unfold otherL; rw [← hO]
      have HF := Lib.hid hfin
      have HK := Lib.hid hOk
      have HE := Lib.hid hOe
      clear hO hfin hOk hOe
      go_loopw [15, 16] (fun ov i wr => ∃ k : Nat, k ≤ O.length ∧ i = .int .i64 k ∧ wr.ownsRow w3.heap.size 25 6 ov (O.take k).length (vcells (O.take k)) ∧ Below w3.heap.size w3 wr)
        (fun _ i _ => bs.length - (intOf i).toNat)
      case atStart => exact ⟨0, by omega, rfl, World.ownsRow_nil _ _ _ _, Below.refl _ _⟩
      case round =>
        obtain ⟨k, hk, rfl, hown, hb⟩ := hrel
        have TW := T3.call hb
        by_cases hlt : k < O.length
        · obtain ⟨hL0, hkb, x, hbx, x0, x1, u, hLu, hOu⟩ := HK.out k hlt
          have hlen : 0 < L.length := List.length_pos_iff.2 hL0
          have m0 := Int.emod_nonneg x (show (L.length : Int) ≠ 0 by omega)
          have m1 := Int.emod_lt_of_pos x (show (0 : Int) < (L.length : Int) by omega)
          obtain ⟨b, ob, rfl, hbw, hc⟩ := hL hL0
          obtain ⟨b2, o2, rfl, hbw2, hc2⟩ := hB (by rintro rfl; simp at hkb)
          obtain ⟨y0, y1, y2, y3, y4, y5⟩ := (sixAt_of (hc _ u hLu)).below TW.below hbw
          have yb := (TW.below.cell (p := ⟨b2, o2 + k, none⟩) hbw2).trans (hc2 k x hbx)
          have hsz : w3.heap.size ≤ wr.heap.size := hb.size
          have hw3 : w.heap.size ≤ w3.heap.size := T3.below.size
          have j1 : (k : Int) < (bs.length : Int) := by omega
          have j2 : (0 : Int) < (L.length : Int) := by omega
          have HT := Lib.hid (List.take_add_one (l := O) (i := k))
          have HO := Lib.hid hOu
          have HLU := Lib.hid hLu
          have Hc := Lib.hid hc
          have Hc2 := Lib.hid hc2
          clear hOu hLu hbx hL hB hc hc2
          have hlk : (O.take k).length ≤ 1000000 := by rw [List.length_take]; omega
          have HT2 : Hid (O.take (k + 1) = O.take k ++ [u]) := by rw [HT.out, HO.out]; rfl
          clear HT
          go_wp2_with (at_builtin; refine append_vec _ rfl (.tmp 94) (.tmp 106) rfl w3.heap.size _ (O.take k) u rfl (hown.alloc _) wr.heap.size rfl (Blk.new _ _ _) hlk (by simp <;> omega) ?_; intro v' w' hown' hb')
          go_wp2
          go_roundw
          case rel => exact ⟨k + 1, by omega, by go_num, by rw [HT2.out]; exact hown', (hb.alloc hsz _).trans hb'⟩
          case measure => simp [intOf]; omega
        · obtain rfl : k = O.length := by omega
          rw [List.take_of_length_le (Nat.le_refl _)] at hown
          have hcond : (O.length < bs.length ∧ L = []) ∨ O.length = bs.length := by
            by_cases h : O.length < bs.length
            · exact .inl ⟨h, HE.out h⟩
            · exact .inr (by omega)
          have hcond2 : ((O.length : Int) < (bs.length : Int) ∧ ¬ ((0 : Int) < (L.length : Int))) ∨ ¬ ((O.length : Int) < (bs.length : Int)) := by
            rcases hcond with ⟨h1, h2⟩ | h1
            · exact .inl ⟨by omega, by rw [h2]; simp⟩
            · exact .inr (by omega)
          clear hcond HE HK
          have hw3 : w.heap.size ≤ w3.heap.size := T3.below.size
          rcases hcond2 with ⟨hc1, hc2⟩ | hc1
          all_goals
            go_wp2_with fail
            go_loopw [15, 17] (fun ov i w5 => ∃ (j : Nat) (i' : Int), j ≤ L.length ∧ i' = (j : Int) - 1 ∧ i = .int .i64 i' ∧ w5.ownsRow w3.heap.size 25 6 ov (O ++ L.reverse.take (L.length - j)).length (vcells (O ++ L.reverse.take (L.length - j))) ∧ Below w3.heap.size w3 w5)
              (fun _ i _ => (intOf i + 1).toNat)
            case atStart => exact ⟨L.length, _, Nat.le_refl _, rfl, rfl, by rw [Nat.sub_self, List.take_zero, List.append_nil]; exact hown, hb⟩
            case round =>
              obtain ⟨j, i', hj, hi', rfl, hown2, hb2⟩ := hrel
              have TW2 := T3.call hb2
              clear hown hb TW
              by_cases hj0 : 0 < j
              · obtain ⟨m, rfl⟩ : ∃ m, j = m + 1 := ⟨j - 1, by omega⟩
                obtain rfl : i' = (m : Int) := by omega
                obtain ⟨b, ob, rfl, hbw, hc⟩ := hL (by rintro rfl; simp at hj)
                obtain ⟨u, hu⟩ : ∃ u, L[m]? = some u := ⟨L[m], List.getElem?_eq_getElem (by omega)⟩
                obtain ⟨y0, y1, y2, y3, y4, y5⟩ := (sixAt_of (hc _ u hu)).below TW2.below hbw
                have hsz : w3.heap.size ≤ wr.heap.size := hb2.size
                have j1 : (m : Int) < (L.length : Int) := by omega
                have HT2 : Hid (O ++ L.reverse.take (L.length - m) = (O ++ L.reverse.take (L.length - (m + 1))) ++ [u]) := by
                  show _ = _
                  rw [show L.length - m = (L.length - (m + 1)) + 1 from by omega, List.take_add_one, List.getElem?_reverse (by omega), show L.length - 1 - (L.length - (m + 1)) = m from by omega, hu]
                  simp
                have hlk : (O ++ L.reverse.take (L.length - (m + 1))).length ≤ 1000000 := by rw [List.length_append, List.length_take, List.length_reverse]; omega
                have HC := Lib.hid hc
                clear hc hu hL hi'
                go_wp2_with (at_builtin; refine append_vec _ rfl (.tmp 115) (.tmp 120) rfl w3.heap.size _ _ u rfl (hown2.alloc _) wr.heap.size rfl (Blk.new _ _ _) hlk (by simp <;> omega) ?_; intro v' w' hown' hb')
                refine ⟨⟨m, (m : Int) - 1, by omega, rfl, rfl, by rw [HT2.out]; exact hown', (hb2.alloc hsz _).trans hb'⟩, by simp [intOf] <;> omega⟩
              · obtain rfl : j = 0 := by omega
                have hneg : i' < 0 := by omega
                clear hi'
                rw [Nat.sub_zero, List.take_of_length_le (by simp), ← HF.out] at hown2
                obtain ⟨A5, c5, rfl, hc5, hm5, hV5⟩ := vrows_own hown2
                have TT : Trk wr wr [(w2.heap.size, 25, vecA M), (w1.heap.size, 25, vecA J), (w.heap.size, 25, vecA v)] := ⟨Below.refl _ _, TW2.blk⟩
                have e7 : ∀ W, Below wr.heap.size wr W → Calls Try.prog 9 #[.slice A5 (otherL L bs).length c5] W fun e w' => e = .returned (.agg (vecA J)) ∧ Below W.heap.size W w' := fun W hW => by
                  have h := join_any A5 c5 (otherL L bs) wr.heap.size W (hV5.below hW) hW.size hc5 hm5
                  rw [Vec.join_same (otherL L bs) L (other_mem L bs), ← HJ.out] at h
                  exact h
                have e8 := fun g W h => vjoin2 g J J J (join_self J) W h
                have e9 := fun g W h => vjoin2 g J M J (by rw [HJ.out, HM.out]; exact meet_le_join L) W h
                have e10 := fun g W h => vjoin2 g J v (Vec.map2 max J v) rfl W h
                have e11 := vless' J (Vec.map2 max J v) true (less_join2 J v)
                have okJ : J.ok := by rw [HJ.out]; exact Vec.ok_join okL
                have e12 := vlack' (Vec.map2 max J v) v (Vec.ok_max okJ okv) okv 0 (lack_join J v)
                generalize Vec.map2 max J v = U at e10 e11 e12
                have E7 := Lib.hid e7
                have E8 := Lib.hid e8
                have E9 := Lib.hid e9
                have E10 := Lib.hid e10
                have E11 := Lib.hid e11
                have E12 := Lib.hid e12
                clear e7 e8 e9 e10 e11 e12 okJ okL okb
                generalize (otherL L bs).length = n5 at E7 hc5
                go_wp2_with fail
                go_region_held3 (fun w' => Rules w' [(w2.heap.size, 25, vecA M), (w1.heap.size, 25, vecA J), (w.heap.size, 25, vecA v)] ∧ Trk wr w' [(w2.heap.size, 25, vecA M), (w1.heap.size, 25, vecA J), (w.heap.size, 25, vecA v)])
                  (first | with_reducible exact Trk.both (Trk.drew (by assumption)) | with_reducible exact Trk.both (Trk.alloc (And.right (by assumption)) _) | with_reducible exact Trk.both (Trk.call (And.right (by assumption)) (by assumption)))
                  (first | (go_at_call 9; (with_reducible refine (E7.out _ (Trk.below (And.right (by assumption)))).mono ?_); rintro e w' ⟨rfl, hb⟩) | (go_at_call 9; (with_reducible refine (E8.out _ _ ?h8).mono ?_); (case h8 => exact heap_alloc_new _ _); rintro e w' ⟨rfl, hb⟩) | (go_at_call 9; (with_reducible refine (E9.out _ _ ?h9).mono ?_); (case h9 => exact heap_alloc_new _ _); rintro e w' ⟨rfl, hb⟩))
                have T8 := And.right (by assumption : _ ∧ Trk wr _ [(w2.heap.size, 25, vecA M), (w1.heap.size, 25, vecA J), (w.heap.size, 25, vecA v)])
                obtain ⟨p0, -, p1, -, p2, -⟩ := T8.rules
                go_wp2_with fail
                go_region_held3 (fun w' => Rules w' [(w2.heap.size, 25, vecA M), (w1.heap.size, 25, vecA J), (w.heap.size, 25, vecA v)] ∧ Trk wr w' [(w2.heap.size, 25, vecA M), (w1.heap.size, 25, vecA J), (w.heap.size, 25, vecA v)])
                  (first | with_reducible exact Trk.both (Trk.drew (by assumption)) | with_reducible exact Trk.both (Trk.alloc (And.right (by assumption)) _) | with_reducible exact Trk.both (Trk.call (And.right (by assumption)) (by assumption)))
                  (first | (go_at_call 9; (with_reducible refine (E10.out _ _ ?h10).mono ?_); (case h10 => exact heap_alloc_new _ _); rintro e w' ⟨rfl, hb⟩) | (go_at_call 11; (with_reducible refine (E11.out _).mono ?_); rintro e w' ⟨rfl, hb⟩) | (go_at_call 13; (with_reducible refine (E12.out _).mono ?_); rintro e w' ⟨rfl, hb⟩) | (go_at_call 8; refine (works06 _).mono ?_; rintro e w' ⟨rfl, hb⟩))
                have T9 := And.right (by assumption : _ ∧ Trk wr _ [(w2.heap.size, 25, vecA M), (w1.heap.size, 25, vecA J), (w.heap.size, 25, vecA v)])
                go_wp2_with fail
                go_ret
                exact ⟨rfl, TW2.below.trans (T9.below.mono TW2.below.size)⟩
end Go.Proofs.Ytlbdlmgcblmeeaa
