/-
  The walks of package vector: fold, Join, Meet.
-/
import Derived.Test.YtgbbhkdaalnchaaVecA
import Derived.Lib.Hide
namespace Go.Proofs.Ytgbbhkdaalnchaa
set_option linter.unusedVariables false
set_option linter.unusedSimpArgs false
open Go.RowKit

/-- The two closures that choose, and what they choose. -/
def Chooses (ch : FuncId) (c : Int → Int → Int) : Prop := (ch = 58 ∧ c = max) ∨ (ch = 60 ∧ c = min)

theorem foldC_any (ch : FuncId) (c : Int → Int → Int) (hch : Chooses ch c) (bc bo bv : Nat) (O V : Vec) (k : Nat) (hk : k < 6) (w : World)
    (h1 : w.cell? ⟨bc, 0, none⟩ = some (.func (.func ch) #[] #[])) (h2 : Blk w bo 30 (vecA O)) (h3 : Blk w bv 30 (vecA V)) :
    Calls Try.prog 69 #[.int .i64 k, .pointer (some ⟨bc, 0, none⟩), .pointer (some ⟨bo, 0, none⟩), .pointer (some ⟨bv, 0, none⟩)] w
      fun e w' => e = .returned (.int .u64 (c (O.get k) (V.get k))) ∧ Below w.heap.size w w' := by
  have g2 := vecA_get O k hk
  have g3 := vecA_get V k hk
  obtain ⟨r2, _⟩ := h2.rules
  obtain ⟨r3, _⟩ := h3.rules
  have hk1 : (0 : Int) ≤ (k : Int) := by omega
  have hk2 : (k : Int) < 6 := by omega
  rcases hch with ⟨rfl, rfl⟩ | ⟨rfl, rfl⟩
  · go_enter Try.func69, Try.ntmps69
    go_wp2_with fail
    go_quiet ((go_at_call 58; exact Calls.quiet_of_same ((joinC_any _ _ _).mono fun _ _ ⟨h1, h2⟩ => ⟨h1, h2.symm⟩)))
    go_wp2
    go_ret
    exact ⟨rfl, below_drewN (Below.refl _ _) _⟩
  · go_enter Try.func69, Try.ntmps69
    go_wp2_with fail
    go_quiet ((go_at_call 60; exact Calls.quiet_of_same ((meetC_any _ _ _).mono fun _ _ ⟨h1, h2⟩ => ⟨h1, h2.symm⟩)))
    go_wp2
    go_ret
    exact ⟨rfl, below_drewN (Below.refl _ _) _⟩

set_option maxHeartbeats 400000 in
theorem fold_any (ch : FuncId) (c : Int → Int → Int) (hch : Chooses ch c) (A : Option Addr) (cap : Nat) (L : List Vec) (B : Nat) (w : World) (hL : VRows w B A L) (hB : B ≤ w.heap.size) (hn : L.length ≤ cap) (hcap : cap ≤ maxLen) :
    Calls Try.prog 57 #[.slice A L.length cap, .func (.func ch) #[] #[]] w fun e w' => e = .returned (.agg (vecA (Vec.foldV c L))) ∧ Below w.heap.size w w' := by
  unfold maxLen at hcap
  rcases L with _ | ⟨v, L⟩
  · go_enter Try.func57, Try.ntmps57
    go_wp2_with fail
    go_returns
    refine ⟨rfl, ?_⟩
    go_grown
  · obtain ⟨b, o, rfl, hlt, hc⟩ := hL (by simp)
    have hbw : b < w.heap.size := by omega
    have hl : ((L.length + 1 : Nat) : Int) = (L.length : Int) + 1 := by omega
    have h6 := sixAt_of (hc 0 v rfl)
    rw [Nat.zero_mul, Nat.add_zero] at h6
    obtain ⟨hx0, hx1, hx2, hx3, hx4, hx5⟩ := h6
    have HC := Lib.hid hc
    clear hc
    simp only [List.length_cons] at hn ⊢
    by_cases hc1 : cap = 1
    · obtain rfl : cap = 1 := hc1
      obtain rfl : L = [] := List.eq_nil_of_length_eq_zero (by omega)
      go_enter Try.func57, Try.ntmps57
      go_wp2_with fail
      refine wp_loop_rounds 1 ?_
      rw [rounds_succ]
      go_wp2_with fail
      go_returns
      refine ⟨rfl, ?_⟩
      go_grown
    · have hq0 : ((L.length : Int) + 1 == 0) = false := by rw [beq_eq_false_iff_ne]; omega
      go_enter Try.func57, Try.ntmps57
      go_wp2_with fail
      go_loopw [18] (fun i wr => ∃ k : Nat, k ≤ L.length ∧ i = .int .i64 k ∧ Blk wr w.heap.size 102 #[.func (.func ch) #[] #[]] ∧ Blk wr (w.heap.size + 1) 30 (vecA Vec.zero) ∧
        Blk wr (w.heap.size + 2) 30 (vecA (Vec.foldV c ((v :: L).take (k + 1)))) ∧ Below w.heap.size w wr) (fun i _ => L.length - (intOf i).toNat)
      case atStart => exact ⟨0, by omega, rfl, ((Blk.new w _ _).alloc _).alloc _, (Blk.new_at (by simp) rfl).alloc _, Blk.new_at (by simp) rfl, by go_grown⟩
      case round =>
        obtain ⟨k, hk, rfl, hb0, hb1, hb2, hb⟩ := hrel
        by_cases hlt2 : k < L.length
        · obtain ⟨u, hu⟩ : ∃ u, L[k]? = some u := ⟨L[k], List.getElem?_eq_getElem hlt2⟩
          have h6 := sixAt_of (HC.out (k + 1) u (by simpa using hu))
          rw [show o + (k + 1) * 6 = o + 6 + k * 6 from by omega] at h6
          obtain ⟨hy0, hy1, hy2, hy3, hy4, hy5⟩ := h6.below hb hbw
          have hft := Lib.hid (Vec.foldV_take c (v :: L) (k + 1) u (by omega) (by simpa using hu))
          generalize hO : Vec.foldV c ((v :: L).take (k + 1)) = O at hb2 hft
          clear hO
          obtain ⟨hr1, hr2⟩ := hb2.rules
          have hsz := hb2.lt
          go_wp2_with fail
          refine (each_any _ _ (Vec.map2 c O u) _ (fun j hj w1 hw1 => ?_) (Or.inl rfl)).mono ?_
          · rw [Vec.get_map2 c O u j hj]
            have e0 := (hb0.alloc (.cells (vecA u) 30)).below hw1 (hb0.alloc _).lt
            have e2 := (hb2.alloc (.cells (vecA u) 30)).below hw1 (hb2.alloc _).lt
            have e3 := (Blk.new wr 30 (vecA u)).below hw1 (Blk.new _ _ _).lt
            exact foldC_any ch c hch _ _ _ O u j hj w1 (e0.cell 0) e2 e3
          rintro e w2 ⟨rfl, hw2⟩
          have e0 := (hb0.alloc (.cells (vecA u) 30)).below hw2 (hb0.alloc _).lt
          have e1 := (hb1.alloc (.cells (vecA u) 30)).below hw2 (hb1.alloc _).lt
          have e2 := (hb2.alloc (.cells (vecA u) 30)).below hw2 (hb2.alloc _).lt
          obtain ⟨hs1, hs2⟩ := e2.rules
          clear hr1 hr2
          go_wp2
          go_roundw
          case rel =>
            refine ⟨k + 1, by omega, by go_num, e0.farVec (by omega) _, e1.farVec (by omega) _, ?_, ?_⟩
            · rw [hft.out]
              exact e2.setVec _
            · exact below_setVec ((hb.alloc hb.size _).trans (hw2.mono (by simp; omega))) (by omega) _
          case measure => simp [intOf]; omega
        · obtain rfl : k = L.length := by omega
          rw [List.take_of_length_le (by simp)] at hb2
          generalize hO : Vec.foldV c (v :: L) = O at hb2
          have HO := Lib.hid hO
          clear hO
          obtain ⟨hr1, hr2⟩ := hb2.rules
          obtain ⟨hr3, hr4⟩ := hb1.rules
          go_wp2_with fail
          refine bodyPost_ret (v := .agg (vecA O)) (by simp [results, Try.results57, go_sem, hr3]) rfl ⟨by rw [HO.out], ?_⟩
          exact below_setVec hb (by omega) _
end Go.Proofs.Ytgbbhkdaalnchaa
