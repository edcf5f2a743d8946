/-
  The walk of EventTurned.
-/
import Derived.Test.YtgannlbhhanflaaEm
import Derived.Test.YtgannlbhhanflaaEuP
import Derived.Test.YtgannlbhhanflaaEnP
import Derived.Laws.OwnMore
namespace Go.Proofs.Ytgannlbhhanflaa
set_option linter.unusedVariables false
set_option linter.unusedSimpArgs false
open Go.RowKit

set_option maxHeartbeats 1000000 in
theorem turned_no (e : Ev) (oe : e.ok) (a by_ : Int) (h : emayB e = false) (w : World) :
    Calls Try.prog 5 #[.agg (evA e), .int .u8 a, .int .u8 by_] w fun r w' => r = .returned (.bool true) ∧ Below w.heap.size w w' := by
  have C1 := Lib.hid (emay' e oe false h)
  have c2 := fun W => eput e oe W
  rw [putE_no h] at c2
  have C2 := Lib.hid c2
  clear c2 h
  go_enter Try.func5, Try.ntmps5
  go_wp2_with fail
  have T0 : Trk w _ _ := (Trk.nil w).push (t := 40) (cs := evA e) rfl
  refine (C2.out _).mono ?_
  rintro r w1 ⟨u, rfl, hown, hb1⟩
  obtain ⟨A, c, rfl, -⟩ := own_open hown
  have T1 := T0.call hb1
  obtain ⟨q0, -, -⟩ := T1.rules
  have l0 := T1.lt
  clear hown hb1 T0
  go_wp2_with fail
  refine (C1.out _).mono ?_
  rintro r w2 ⟨rfl, hb2⟩
  have T2 := T1.call hb2
  clear hb2 T1 q0 l0
  go_wp2_with fail
  refine (works08 _).mono ?_
  rintro r w3 ⟨rfl, hb3⟩
  have T3 := T2.call hb3
  go_wp2_with fail
  go_ret
  exact ⟨rfl, T3.below⟩
set_option maxHeartbeats 4000000 in
set_option maxRecDepth 100000 in
theorem turned_yes (e : Ev) (oe : e.ok) (a by_ : Int) (a0 : 0 ≤ a) (a1 : a ≤ 255) (b0 : 0 ≤ by_) (b1 : by_ ≤ 255) (h : emayB e = true) (w : World) :
    Calls Try.prog 5 #[.agg (evA e), .int .u8 a, .int .u8 by_] w fun r w' => r = .returned (.bool true) ∧ Below w.heap.size w w' := by
  have C1 := Lib.hid (emay' e oe true h)
  have c2 := fun W => eput e oe W
  rw [putE_yes h] at c2
  obtain ⟨k, hk⟩ : ∃ k : Nat, Int.tmod a 91 = k := ⟨(Int.tmod a 91).toNat, by rw [Int.tmod_eq_emod_of_nonneg a0]; omega⟩
  have hk91 : k < 91 := by rw [Int.tmod_eq_emod_of_nonneg a0] at hk; omega
  have hT := turn_read oe h k hk91 by_ b0 b1
  obtain ⟨f1, f2, -⟩ := turnL_facts (evL e) k by_ (by rw [evL_length]; exact hk91) (evL_range (may_of h)) b0 b1
  rw [evL_length] at f1
  have hread := readAt_ok (turnL (evL e) k by_) 0 (by omega) f2
  have hgk : (evL e)[k]? = some ((evL e).getD k 0) := by rw [List.getD_eq_getElem?_getD, List.getElem?_eq_getElem (by rw [evL_length]; exact hk91)]; rfl
  have hlen : (evL e).length = 91 := rfl
  have hset : ∀ x, x = (evL e).getD k 0 → (evL e).set k (bits .xor .u8 x by_) = turnL (evL e) k by_ := fun x hx => by rw [hx]; rfl
  obtain ⟨x, hx⟩ : ∃ x, x = (evL e).getD k 0 := ⟨_, rfl⟩
  have hset := hset x hx
  rw [← hx] at hgk
  have c3 := fun A cap B W h1 h2 h3 h4 => etake A cap (turnL (evL e) k by_) B 0 W h1 h2 h3 h4 f2 (by decide) (by decide)
  generalize turnL (evL e) k by_ = M2 at hT f1 f2 hread c3 hset
  generalize evL e = M at c2 hgk hlen hset
  have C2 := Lib.hid c2
  have C3 := Lib.hid c3
  have HGK := Lib.hid hgk
  have HL := Lib.hid hlen
  have HSET := Lib.hid hset
  have HT := Lib.hid hT
  have HF1 := Lib.hid f1
  have HF2 := Lib.hid f2
  have HRD := Lib.hid hread
  clear c2 c3 hgk hlen hset hT f1 f2 hread hx h
  go_enter Try.func5, Try.ntmps5
  go_wp2_with fail
  have T0 : Trk w _ _ := (Trk.nil w).push (t := 40) (cs := evA e) rfl
  refine (C2.out _).mono ?_
  rintro r w1 ⟨u, rfl, hown, hb1⟩
  have T1 := T0.call hb1
  obtain ⟨g, c, hu, hgB, hc91, hcm⟩ : ∃ g c, u = .slice (some ⟨g, 0, none⟩) 91 c ∧ w.heap.size + 1 ≤ g ∧ 91 ≤ c ∧ c ≤ maxLen := by
    rcases hown.2 with ⟨_, h0⟩ | ⟨g, cap, cur, hv, hg, _, hnc, hcm, _⟩
    · rw [HL.out] at h0; cases h0
    · rw [HL.out] at hv hnc
      exact ⟨g, cap, hv, by simpa using hg, hnc, hcm⟩
  subst hu
  rw [HL.out] at hown
  clear hb1 T0
  obtain ⟨q0, -, -⟩ := T1.rules
  have l0 := T1.lt
  go_wp2_with fail
  refine (C1.out _).mono ?_
  rintro r w2 ⟨rfl, hb2⟩
  have T2 := T1.call hb2
  have hown2 := ownsRow_below hown hb2
  clear hb2 T1 hown q0 l0
  have hcell : w2.cell? ⟨g, k, none⟩ = some (.int .u8 x) := by
    have := hown2.cells (g := g) rfl k (.int .u8 x) (by unfold bcells; rw [List.getElem?_map, HGK.out]; rfl)
    rwa [addr_add, Nat.zero_add] at this
  have hfr : w2.frozen? ⟨g, k, none⟩ = false := by
    rcases hown2.2 with ⟨h', _⟩ | ⟨g', cap', cur, h', _, hg', _⟩
    · cases h'
    · obtain rfl : g = g' := by injection h' with h1; injection h1 with h1; injection h1
      exact Blk.frozen hg' k
  have k1 : (0 : Int) ≤ (k : Int) := by omega
  have k2 : (k : Int) < 91 := by omega
  have hwk : IntKind.i64.wrap (k : Int) = (k : Int) := IntWalk.i64_in _ (by omega)
  have hwa : IntKind.i64.wrap a = a := IntWalk.i64_in _ (by omega)
  go_upto_region 6 with fail
  go_still_tail 17, (by kernel_rfl)
  clear hwa hwk hk k1 k2 hcell hfr
  have T3 := T2.drew
  have hown3 : (w2.drew).ownsRow _ _ _ _ _ _ := hown2
  change wpList _ _ _ _ _ w2.drew
  generalize w2.drew = w3 at T3 hown3
  obtain ⟨hown4, -⟩ := hown3.stored k (.int .u8 (bits .xor .u8 x by_))
  have T4 : Trk w (w3.setCell ⟨g, k, none⟩ (.int .u8 (bits .xor .u8 x by_))) [(w.heap.size, 40, evA e)] := T3.far (p := ⟨g, k, none⟩) (by show _ ≤ g; omega) ⟨by show _ ≠ g; omega, trivial⟩ _
  have hcell : w3.cell? ⟨g, k, none⟩ = some (.int .u8 x) := by
    have := hown3.cells (g := g) rfl k (.int .u8 x) (by unfold bcells; rw [List.getElem?_map, HGK.out]; rfl)
    rwa [addr_add, Nat.zero_add] at this
  have hfr : w3.frozen? ⟨g, k, none⟩ = false := by
    rcases hown3.2 with ⟨h', _⟩ | ⟨g', cap', cur, h', _, hg', _⟩
    · cases h'
    · obtain rfl : g = g' := by injection h' with h1; injection h1 with h1; injection h1
      exact Blk.frozen hg' k
  have hgl : g < w3.heap.size := (hown3.lt g rfl).2
  have hz : (bcells M).set k (.int .u8 (bits .xor .u8 x by_)) = bcells M2 := by rw [← HSET.out]; unfold bcells; rw [List.map_set]
  rw [hz] at hown4
  have hgo : w.heap.size ≠ g := by omega
  have hm1 : c ≤ 9223372036854775807 := hcm
  clear hz hown3 T3
  go_wp2_with fail
  generalize w3.setCell ⟨g, k, none⟩ (.int .u8 (bits .xor .u8 x by_)) = w4 at hown4 T4 ⊢
  clear hcell hfr hgl
  have hR : Rd w4 w4.heap.size 1 (some ⟨g, 0, none⟩) M2.length (bcells M2) := by rw [HF1.out]; exact Rd.of_own hown4
  have hV := rd_brows hR
  have c3 := C3.out (some ⟨g, 0, none⟩) c w4.heap.size w4 hV (Nat.le_refl _) (by rw [HF1.out]; exact hc91) hcm
  rw [HF1.out] at c3
  have hB : BytesIs M2 (.slice (some ⟨g, 0, none⟩) 91 c) w4 := ⟨some ⟨g, 0, none⟩, c, by rw [HF1.out], by rw [HF1.out]; exact hc91, hcm, hV⟩
  have HB := Lib.hid hB
  clear hR hV hB hown4
  obtain ⟨X, hX⟩ : ∃ X, X = readAt M2 0 := ⟨_, rfl⟩
  obtain ⟨y, hy⟩ : ∃ y, emayB X = y := ⟨_, rfl⟩
  have ht := HT.out
  have hxo := HRD.out
  rw [← hX] at ht hxo
  rw [hy] at ht
  rcases (show y = false ∨ y = true from by cases y <;> simp) with rfl | rfl
  · have et : takeE M2 0 = (Ev.zero, 0, 5) := takeE_no (m := 0) (by rw [HF1.out]; decide) (by rw [← hX]; exact hy)
    rw [et] at c3
    have c3 : Calls Try.prog 30 #[.slice (some ⟨g, 0, none⟩) 91 c, .int .i64 0] w4 (fun e w' => e = .returned (.tuple #[.agg (evA Ev.zero), .int .i64 0, .int .i64 5]) ∧ Below w4.heap.size w4 w') := c3
    have hb : (by_ != 0) = true := by simpa [bne] using ht.1 rfl
    have hb2 : (by_ == 0) = false := by simpa using ht.1 rfl
    have H3 := Lib.hid c3
    clear c3 et ht hxo hy hX
    refine H3.out.mono ?_
    rintro r w5 ⟨rfl, hb5⟩
    have T5 := (T4.call hb5).push (t := 40) (cs := evA Ev.zero) rfl
    clear hb5 T4
    go_wp2_with fail
    refine (works08 _).mono ?_
    rintro r w6 ⟨rfl, hb6⟩
    have T6 := T5.call hb6
    go_wp2_with fail
    go_ret
    exact ⟨rfl, T6.below⟩
  · have et : takeE M2 0 = (X, 91, 0) := by rw [hX]; exact takeE_yes (m := 0) (by rw [HF1.out]; decide) (by rw [← hX]; exact hy)
    rw [et] at c3
    have c3 : Calls Try.prog 30 #[.slice (some ⟨g, 0, none⟩) 91 c, .int .i64 0] w4 (fun e w' => e = .returned (.tuple #[.agg (evA X), .int .i64 91, .int .i64 0]) ∧ Below w4.heap.size w4 w') := c3
    obtain ⟨hev, heq⟩ := ht.2 rfl
    obtain ⟨eb, heb⟩ : ∃ b, decide (X = e) = b := ⟨_, rfl⟩
    have hbe : (by_ == 0) = eb := by
      rw [← heb, Bool.eq_iff_iff]; simp only [beq_iff_eq, decide_eq_true_eq]; exact heq.symm
    have c5 := fun W => eput X hxo W
    rw [putE_yes hy, hev] at c5
    have C5 := Lib.hid c5
    have C6 := Lib.hid (emay' X hxo true hy)
    have HEB := Lib.hid heb
    have HBE := Lib.hid hbe
    have H3 := Lib.hid c3
    clear c3 c5 et ht hxo hy hX heb hbe hev heq
    refine H3.out.mono ?_
    rintro r w5 ⟨rfl, hb5⟩
    have T5 := (T4.call hb5).push (t := 40) (cs := evA X) rfl
    have hB := (HB.out.keep _ _ _ _ hb5).keep _ _ _ _ ((Below.refl _ _).alloc (Nat.le_refl _) (.cells (evA X) 40))
    have HB5 := Lib.hid hB
    clear hb5 T4 hB HB
    go_upto_region 10 with fail
    generalize w5.alloc (.cells (evA X) 40) = w6 at T5 HB5 ⊢
    generalize w5.heap.size = g5 at T5 ⊢
    have hE := HEB.out
    have hY := HBE.out
    have S4 := HB5.out
    refine lw_region [.is (.int .i64 91), .is (.bool true), .is (.bool true), .is (.agg (evA X)), .is (.bool true), .is (.bool true), .is (.bool true), .is (.agg (evA X)), .bytes M2, .is (.string (strOfNums M2)), .is (.slice (some ⟨g, 0, none⟩) 91 c), .is (.string (strOfNums M2)), .is (.bool true), .is (.bool true), .is (.bool true), .is (.agg (evA X)), .is (.agg (evA e)), .is (.bool eb), .is (.int .u8 by_), .is (.bool eb), .is (.bool true), .is (.bool true), .is (.bool true), .is (.bool true), .is (.bool true), .is (.bool true)] (by kernel_rfl) (by kernel_rfl) ?_
    repeat
      first
        | refine lw_skip rfl ?_
        | refine lw_loade T5 rfl _ rfl _ _ rfl rfl (by simp) ?_
        | refine lw_move rfl _ rfl _ rfl rfl ?_
        | refine lw_assign rfl _ rfl _ rfl rfl ?_
        | refine lw_pickT rfl _ _ _ rfl rfl _ rfl rfl ?_
        | refine lw_conv rfl _ rfl _ rfl _ S4 rfl ?_
        | refine lw_convR rfl _ rfl 8 _ rfl (by rfl) (by repeat (first | exact Or.inl ⟨rfl, rfl⟩ | apply Or.inr)) _ rfl rfl ?_
        | ((refine lw_call rfl 26 #[.agg (evA X)] _ rfl ?_ (fun w _ => C6.out w) ?_); (· intro w; simp [go_sem] <;> rfl))
        | ((refine lw_call_rel rfl 29 #[.agg (evA X)] _ _ rfl ?_ (fun w _ => gives_rel (C5.out w)) ?_); (· intro w; simp [go_sem] <;> rfl); intro z)
        | ((refine lw_call rfl 27 #[] _ rfl ?_ (fun w _ => works08 w) ?_); (· intro w; simp [go_sem] <;> rfl))
        | ((refine lw_bin rfl _ _ _ _ _ rfl _ _ rfl rfl _ rfl ?_ ?_); (· intro ρ w h1 h2; simp [execOp, h1, h2, go_sem, hE, hY]))
      simp only [Act.put, List.setIfInBounds_toArray, List.set_cons_succ, List.set_cons_zero]
    intro w7 hb7
    have T7 := T5.call hb7
    go_wp2_with fail
    go_ret
    exact ⟨rfl, T7.below⟩
theorem turned_law (e : Ev) (oe : e.ok) (a by_ : Int) (a0 : 0 ≤ a) (a1 : a ≤ 255) (b0 : 0 ≤ by_) (b1 : by_ ≤ 255) (w : World) :
    Calls Try.prog 5 #[.agg (evA e), .int .u8 a, .int .u8 by_] w fun r w' => r = .returned (.bool true) ∧ Below w.heap.size w w' := by
  cases h : emayB e with
  | false => exact turned_no e oe a by_ h w
  | true => exact turned_yes e oe a by_ a0 a1 b0 b1 h w
end Go.Proofs.Ytgannlbhhanflaa
