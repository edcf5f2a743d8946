/-
  The document's hold in memory; the walk of leatref15's Put.
-/
import Derived.Test.YtgbbhkdaalnchaaHmE
import Derived.Test.YtgbbhkdaalnchaaGS
namespace Go.Proofs.Ytgbbhkdaalnchaa
set_option linter.unusedVariables false
set_option linter.unusedSimpArgs false
open Go.RowKit Go Go.BigFrame
set_option maxRecDepth 100000

/-- The document's hold at block b. -/
structure RHo (w : World) (base b : Nat) (v : Value) (L : List Ev) : Prop where
  blk : Blk w b 65 #[v]
  ge : base ≤ b
  row : RowE w base v L
section
variable {w w' : World} {base b : Nat} {v : Value} {L : List Ev} {kn : Vec}
theorem RHo.call (H : RHo w base b v L) (hb : Below w.heap.size w w') : RHo w' base b v L := ⟨H.blk.call hb, H.ge, H.row.call hb⟩
theorem RHo.lt (H : RHo w base b v L) : base ≤ w.heap.size := by have := H.ge; have := H.blk.lt; omega
theorem lookE_list {o s : Int} : (lookE L o s).isSome = L.any (isNm o s) := by
  cases h : lookE L o s with
  | none =>
    symm
    rw [Option.isSome_none, List.any_eq_false]
    intro e he hn
    exact lookE_none h e he (isNm_iff.1 hn)
  | some x =>
    symm
    rw [Option.isSome_some, List.any_eq_true]
    obtain ⟨h1, h2, h3⟩ := lookE_some h
    exact ⟨x, h1, isNm_iff.2 ⟨h2, h3⟩⟩
def RPutPost (base b : Nat) (v : Value) (n : Int) (L' : List Ev) (w : World) (r : Ending) (w' : World) : Prop := r = .returned (.int .i64 n) ∧ ∃ v', RHo w' base b v' L' ∧ Fr w w' b v.ownBlock
theorem RPutPost.same (H : RHo w base b v L) {n : Int} (hb : Below w.heap.size w w') : RPutPost base b v n L w (.returned (.int .i64 n)) w' := ⟨rfl, v, H.call hb, Fr.of_below hb⟩
set_option maxHeartbeats 1000000 in
theorem rhput (H : RHo w base b v L) (kn : Vec) (e : Ev) (ho : e.ok) (hl : L.length ≤ 1000) :
    Calls Try.prog 18 #[.pointer (some ⟨b, 0, none⟩), .agg (vecA kn), .agg (evA e)] w (RPutPost base b v (hputR kn L e) (hputL kn L e) w) := by
  obtain ⟨b1, hb1⟩ : ∃ b, emayB e = b := ⟨_, rfl⟩
  obtain ⟨b2, hb2⟩ : ∃ b, lateB kn e = b := ⟨_, rfl⟩
  have C1 := Lib.hid (fun W => rmay8' e ho b1 hb1 W)
  have C2 := Lib.hid (fun W => show Calls Try.prog 47 #[.agg (vecA kn), .agg (evA e)] W fun r w' => r = .returned (.bool b2) ∧ Below W.heap.size W w' from by have := rlate kn e ho W; rw [hb2] at this; exact this)
  have T0 : Trk w _ [(w.heap.size + 1, 32, evA e), (w.heap.size, 30, vecA kn)] := ((Trk.nil w).push (t := 30) (cs := vecA kn) rfl).push (t := 32) (cs := evA e) (g := w.heap.size + 1) (by simp)
  have HB := Lib.hid (And.intro hb1 hb2)
  have HH := Lib.hid H
  have HT := Lib.hid T0
  have HL := Lib.hid hl
  obtain ⟨A, cap, rfl, hcap, hmax⟩ := H.row.sl
  unfold maxLen at hmax
  obtain ⟨-, -, q0, -, -⟩ := T0.rules
  clear hb1 hb2 ho H T0 hl
  go_enter Try.func18, Try.ntmps18
  go_wp2_with fail
  generalize (w.alloc _).alloc _ = W at HT q0 ⊢
  refine (C1.out _).mono ?_
  rintro r w1 ⟨rfl, hb⟩
  have HT1 := Lib.hid (HT.out.call hb)
  clear HT hb C1 q0
  rcases (show b1 = false ∨ b1 = true from by cases b1 <;> simp) with rfl | rfl
  · go_wp2_with fail
    go_ret
    have hr : hputR kn L e = 1 := by simp [hputR, HB.out.1]
    rw [hputL, hr, if_neg (by decide)]
    exact RPutPost.same HH.out HT1.out.below
  obtain ⟨q1, -, q0, -, -⟩ := HT1.out.rules
  go_wp2_with fail
  refine (C2.out _).mono ?_
  rintro r w2 ⟨rfl, hb⟩
  have HT2 := Lib.hid (HT1.out.call hb)
  clear HT1 hb C2 q1 q0
  rcases (show b2 = true ∨ b2 = false from by cases b2 <;> simp) with rfl | rfl
  · go_wp2_with fail
    go_ret
    have hr : hputR kn L e = 14 := by simp [hputR, HB.out.1, HB.out.2]
    rw [hputL, hr, if_neg (by decide)]
    exact RPutPost.same HH.out HT2.out.below
  go_upto_region 6 with fail
  go_loopw [7] (fun s wr => ∃ k : Nat, k ≤ L.length ∧ s = .int .i64 k ∧ (∀ j, j < k → ∀ y, L[j]? = some y → isNm e.o e.s y = false) ∧ Trk w wr [(w.heap.size + 1, 32, evA e), (w.heap.size, 30, vecA kn)]) (fun s _ => L.length - (intOf s).toNat)
  case atStart => exact ⟨0, by omega, rfl, fun j hj => absurd hj (by omega), HT2.out⟩
  case round =>
    obtain ⟨k, hk, rfl, hno, T⟩ := hrel
    clear HT2
    have HN := Lib.hid (And.intro hno T)
    have hH := HH.out.call T.below
    obtain ⟨q, f⟩ := hH.blk.rules
    have lb := hH.blk.lt
    obtain ⟨q1, -, -, -, -⟩ := T.rules
    obtain ⟨l1, -, -⟩ := T.lts
    obtain ⟨wo, rfl⟩ : ∃ wo : World, wo = wr := ⟨_, rfl⟩
    by_cases hlt : k < L.length
    · have hd : decide (k < L.length) = true := decide_eq_true hlt
      obtain ⟨x, hx⟩ : ∃ x, L[k]? = some x := ⟨L[k], List.getElem?_eq_getElem hlt⟩
      obtain ⟨g2, cap2, e0, h1, h2, h3, h4⟩ := hH.row.sl_pos (by omega)
      injection e0 with e1 e2 e3
      subst e1; subst e3
      have c0 : wo.cell? ⟨g2, k * 14, none⟩ = some (.int .i64 x.o) := hH.row.rng evA_size hx 0 _ rfl
      have c1 : wo.cell? ⟨g2, k * 14 + 1, none⟩ = some (.int .u64 x.s) := hH.row.rng evA_size hx 1 _ rfl
      have HX := Lib.hid hx
      obtain ⟨t1, ht1⟩ : ∃ b, (x.o == e.o) = b := ⟨_, rfl⟩
      obtain ⟨t2, ht2⟩ : ∃ b, (x.s == e.s) = b := ⟨_, rfl⟩
      have HG := Lib.hid (show isNm e.o e.s x = (t1 && t2) from by rw [← ht1, ← ht2]; rfl)
      clear hx h1 h2 h3 e2 hno T hH
      rcases (show (t1 = true ∧ t2 = true) ∨ t1 = false ∨ (t1 = true ∧ t2 = false) from by cases t1 <;> cases t2 <;> simp) with ⟨rfl, rfl⟩ | rfl | ⟨rfl, rfl⟩
      · go_upto_region 8 with fail
        go_quiet (fail)
        go_wp2_with fail
        go_ret
        have hr : hputR kn L e = 14 := by
          have : (lookE L e.o e.s).isSome = true := by rw [lookE_list, List.any_eq_true]; exact ⟨x, List.mem_of_getElem? HX.out, HG.out⟩
          simp [hputR, HB.out.1, this]
        rw [hputL, hr, if_neg (by decide)]
        exact RPutPost.same HH.out (below_drewN HN.out.2.below _)
      all_goals
        go_upto_region 8 with fail
        go_quiet (fail)
        go_wp2_with fail
        go_roundw
        case rel => exact ⟨k + 1, by omega, by go_num, fun j hj y hy => by
          by_cases ej : j = k
          · subst ej
            have := HX.out.symm.trans hy
            cases this
            exact HG.out
          · exact HN.out.1 j (by omega) y hy, HN.out.2.drewN _⟩
        case measure => simp [intOf]; omega
    · have hd : decide (k < L.length) = false := decide_eq_false hlt
      obtain rfl : k = L.length := by omega
      have hnone : (lookE L e.o e.s).isSome = false := by
        rw [lookE_list, List.any_eq_false]
        intro y hy hn
        obtain ⟨j, hj, ey⟩ := List.getElem_of_mem hy
        have := HN.out.1 j hj y (by rw [List.getElem?_eq_getElem hj, ey])
        rw [this] at hn; cases hn
      clear hno T
      by_cases h64 : 64 ≤ L.length
      · have hd2 : decide ((64 : Int) ≤ (L.length : Int)) = true := by simp; omega
        clear hH
        go_wp2_with fail
        go_ret
        have hr : hputR kn L e = 7 := by simp [hputR, HB.out.1, HB.out.2, hnone, h64]
        rw [hputL, hr, if_neg (by decide)]
        exact RPutPost.same HH.out HN.out.2.below
      · have hd2 : decide ((64 : Int) ≤ (L.length : Int)) = false := by simp; omega
        have hB1 : Below wo.heap.size wo (wo.alloc (.cells (evA e) 32)).drew := ((Below.refl _ _).alloc (Nat.le_refl _) _).drew
        obtain ⟨v', W6, happ, rowN, hk6, hgr6, -⟩ := RowE.app (base := base) (cap := 1) 49 (hH.row.call hB1) (rd_one evA_size (Blk.new wo 32 (evA e)).drew) (by have := HL.out; simp; omega) (Nat.le_trans hH.lt hB1.size)
        obtain ⟨A2, cap2, rfl, -, -⟩ := rowN.sl
        have e5 : (L ++ [e]).length = L.length + 1 := by simp
        rw [e5] at happ rowN
        simp only [List.length_singleton] at happ
        have hb6 := hk6.blk _ _ _ (hH.blk.call hB1) (by decide)
        obtain ⟨q6, f6⟩ := hb6.rules
        have lb6 := hb6.lt
        have KS : Kt base [65] W6 (W6.setCell ⟨b, 0, none⟩ (.slice A2 (L.length + 1) cap2)) := Kt.setCell hb6 (by simp) hH.ge 0 _
        have Y := Lib.hid (And.intro (show RHo (W6.setCell ⟨b, 0, none⟩ (.slice A2 (L.length + 1) cap2)) base b (.slice A2 (L.length + 1) cap2) (L ++ [e]) from ⟨hb6.set_ 0 _, hH.ge, KS.row rowN (by decide)⟩) (((Fr.of_below (HN.out.2.below.trans (hB1.mono HN.out.2.below.size))).trans (Fr.of_grown hgr6)).set ⟨b, 0, none⟩ rfl (.slice A2 (L.length + 1) cap2) : Fr w _ b (Value.slice A L.length cap).ownBlock))
        clear hB1 rowN hk6 hgr6 hb6 KS hH e5
        go_upto_region 12 with fail
        go_region
        clear q q1 q6 f6 happ lb lb6
        go_wp2_with fail
        go_ret
        have hr : hputR kn L e = 0 := by simp [hputR, HB.out.1, HB.out.2, hnone, h64]
        rw [hputL, hr, if_pos rfl]
        exact ⟨rfl, _, Y.out.1, Y.out.2⟩
end
end Go.Proofs.Ytgbbhkdaalnchaa
