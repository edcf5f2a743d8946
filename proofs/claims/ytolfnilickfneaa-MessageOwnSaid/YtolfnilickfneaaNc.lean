/-
  The walk of the document's leatref20.Get: one that asks, of another length.
-/
import Derived.Test.YtolfnilickfneaaMt
import Derived.Test.YtolfnilickfneaaRl
import Derived.Test.YtolfnilickfneaaGA
namespace Go.Proofs.Ytolfnilickfneaa
set_option linter.unusedVariables false
set_option linter.unusedSimpArgs false
open Go.RowKit
set_option maxRecDepth 100000

set_option maxHeartbeats 4000000 in
theorem rget_rest_two (b0 o cap : Nat) (b : List Int) (w : World) (hc : ∀ i x, b[i]? = some x → w.cell? ⟨b0, o + i, none⟩ = some (.int .u8 x)) (hb : b0 < w.heap.size) (hn : b.length ≤ cap) (hm : cap ≤ maxLen) (hby : ∀ c ∈ b, 0 ≤ c ∧ c ≤ 255) (h51 : 51 ≤ b.length) (hlen : b.length ≤ 10000) (hcap : ¬ cap = 51) (hk : b.getD 0 0 = 2) (hr : b.length ≠ 67) :
    Calls Try.prog 41 #[.slice (some ⟨b0, o, none⟩) b.length cap] w (GivesM (getM b) w) := by
  have hm1 : cap ≤ 9223372036854775807 := hm
  obtain ⟨x0, hx0⟩ : ∃ x, b[0]? = some x := ⟨b[0]'(by omega), List.getElem?_eq_getElem (by omega)⟩
  obtain ⟨x1, hx1⟩ : ∃ x, b[1]? = some x := ⟨b[1]'(by omega), List.getElem?_eq_getElem (by omega)⟩
  obtain ⟨x2, hx2⟩ : ∃ x, b[2]? = some x := ⟨b[2]'(by omega), List.getElem?_eq_getElem (by omega)⟩
  have g0 : b.getD 0 0 = x0 := by rw [List.getD_eq_getElem?_getD, hx0]; rfl
  have g1 : b.getD 1 0 = x1 := by rw [List.getD_eq_getElem?_getD, hx1]; rfl
  have g2 : b.getD 2 0 = x2 := by rw [List.getD_eq_getElem?_getD, hx2]; rfl
  have KK0 := Lib.hid fun W (hW : Below w.heap.size w W) => show W.cell? ⟨b0, o, none⟩ = some (.int .u8 x0) from (hW.cell (p := ⟨b0, o + 0, none⟩) hb).trans (hc 0 x0 hx0)
  have KK1 := Lib.hid fun W (hW : Below w.heap.size w W) => show W.cell? ⟨b0, o + 1, none⟩ = some (.int .u8 x1) from (hW.cell (p := ⟨b0, o + 1, none⟩) hb).trans (hc 1 x1 hx1)
  have KK2 := Lib.hid fun W (hW : Below w.heap.size w W) => show W.cell? ⟨b0, o + 2, none⟩ = some (.int .u8 x2) from (hW.cell (p := ⟨b0, o + 2, none⟩) hb).trans (hc 2 x2 hx2)
  have W1 := Lib.hid (show IntKind.i64.wrap x1 = x1 from IntWalk.i64_in _ (by have := hby x1 (List.mem_of_getElem? hx1); omega))
  have W2 := Lib.hid (show IntKind.i64.wrap x2 = x2 from IntWalk.i64_in _ (by have := hby x2 (List.mem_of_getElem? hx2); omega))
  have hrl : (b.drop 51).length = (b.length - 51) := by rw [List.length_drop]
  have hrr : ∀ c ∈ b.drop 51, 0 ≤ c ∧ c ≤ 255 := fun c hcm => hby c (List.mem_of_mem_drop hcm)
  have hrc : ∀ W, Below w.heap.size w W → ∀ i x, (b.drop 51)[i]? = some x → W.cell? ⟨b0, o + 51 + i, none⟩ = some (.int .u8 x) := fun W hW i x hx => by
    rw [List.getElem?_drop] at hx
    rw [Nat.add_assoc]
    exact (hW.cell (p := ⟨b0, _, none⟩) hb).trans (hc _ x hx)
  have CV := Lib.hid fun W (hW : Below w.heap.size w W) => (show Calls Try.prog 72 #[.slice (some ⟨b0, o + 3, none⟩) 48 (cap - 3)] W (fun e w' => e = .returned (.tuple #[.agg (vecA (vofP ((b.drop 3).take 48)).1), .int .i64 (vofP ((b.drop 3).take 48)).2]) ∧ Below W.heap.size W w') from by
    have h48 : ((b.drop 3).take 48).length = 48 := by rw [List.length_take, List.length_drop]; omega
    have := rof (some ⟨b0, o + 3, none⟩) (cap - 3) ((b.drop 3).take 48) w.heap.size W (fun _ => ⟨b0, o + 3, rfl, hb, fun i x hi => by
      have hi48 : i < 48 := by rw [← h48]; exact (List.getElem?_eq_some_iff.1 hi).1
      rw [List.getElem?_take, if_pos hi48, List.getElem?_drop] at hi
      rw [Nat.add_assoc]
      exact (hW.cell (p := ⟨b0, _, none⟩) hb).trans (hc _ x hi)⟩) hW.size (by omega) (by omega) (fun c hcm => hby c (List.mem_of_mem_drop (List.mem_of_mem_take hcm)))
    rw [h48] at this
    exact this)
  have HB := Lib.hid fun W (hW : Below w.heap.size w W) => (show BytesIs b (.slice (some ⟨b0, o, none⟩) b.length cap) W from ⟨_, _, rfl, hn, hm, fun _ => ⟨b0, o, rfl, Nat.lt_of_lt_of_le hb hW.size, fun i x hi => (hW.cell (p := ⟨b0, _, none⟩) hb).trans (hc i x hi)⟩⟩)
  have HNE := Lib.hid (show ¬ b = [] from by rintro rfl; simp at h51)
  have CA := Lib.hid fun W (hW : Below w.heap.size w W) => (show Calls Try.prog 31 #[.slice (some ⟨b0, o + 51, none⟩) (b.length - 51) (cap - 51)] W (GivesEI (allE (b.drop 51)).1 (allE (b.drop 51)).2 W) from by
    have := rall8 (some ⟨b0, o + 51, none⟩) (cap - 51) (b.drop 51) w.heap.size W (fun _ => ⟨b0, o + 51, rfl, hb, hrc W hW⟩) hW.size (by omega) (by omega) (by omega) hrr
    rw [hrl] at this
    exact this)
  have okM := readR_ok b hby
  have hG := getR_rest hby h51 (by omega)
  have hM : readR b = ⟨2, x1, x2, (vofP ((b.drop 3).take 48)).1, (allE (b.drop 51)).1, 0, 0⟩ := by unfold readR; rw [hk, g1, g2]
  have hE1 := vofP_err ((b.drop 3).take 48)
  have hE2 := allE_err (b.drop 51)
  rw [hM] at okM hG
  obtain rfl : 2 = x0 := by rw [← hk]; exact g0
  generalize hD : (vofP ((b.drop 3).take 48)).1 = D at CV okM hG hM
  generalize (vofP ((b.drop 3).take 48)).2 = er at CV hE1 hG
  generalize (allE (b.drop 51)).1 = L at CA okM hG hM
  generalize (allE (b.drop 51)).2 = ee at CA hE2 hG
  have CP := Lib.hid fun (A' : Option Addr) (c' : Nat) (W : World) (hr : ERows W W.heap.size A' (⟨2, x1, x2, D, L, 0, 0⟩ : Ms).l) (h1 : (⟨2, x1, x2, D, L, 0, 0⟩ : Ms).l.length ≤ c') (h2 : c' ≤ maxLen) => rput20 ⟨2, x1, x2, D, L, 0, 0⟩ okM A' c' W hr h1 h2
  have hPr := putM_range ⟨2, x1, x2, D, L, 0, 0⟩
  generalize putM ⟨2, x1, x2, D, L, 0, 0⟩ = P at CP hG hPr
  have HG := Lib.hid hG
  have HPR := Lib.hid hPr
  have HBY := Lib.hid hby
  have e16 : (((b.length - 51 : Nat) : Int) == 16) = false := by rw [beq_eq_false_iff_ne]; omega
  have e17 : ((b.length - 51) == 16) = false := by rw [beq_eq_false_iff_ne]; omega
  clear hc hG hPr hby hM hD okM hrl hrr hrc hx0 hx1 hx2 g0 g1 g2 hk
  go_enter Try.func41, Try.ntmps41
  go_upto_region 4 with fail
  have T : Trk w _ [(w.heap.size, 54, mcA Mc.zero)] := (Trk.nil w).push (t := 54) (cs := mcA Mc.zero) rfl
  generalize w.alloc _ = w1 at T ⊢
  go_wp2_with fail
  refine (CV.out _ T.below).mono ?_
  rintro r w3 ⟨rfl, hb3⟩
  go_upto_region 5 with fail
  have T4 := (T.call hb3).push (t := 24) (cs := vecA D) rfl
  have hne5 : w.heap.size < w3.heap.size := (T.call hb3).lt
  clear T hb3 CV
  generalize hg5 : w3.heap.size = g5 at T4 hne5 ⊢
  generalize World.alloc _ _ = w4 at T4 ⊢
  clear hg5
  have TB := T4.below
  have hz1 := TB.size
  have hlt5 := T4.lt
  refine wp_region_post 14 [.is (.slice (some ⟨b0, o, none⟩) b.length cap), .is (.pointer (some ⟨b0, o, none⟩)), .is (.int .u8 2), .is (.slice (some ⟨b0, o, none⟩) b.length cap), .is (.pointer (some ⟨b0, o + 1, none⟩)), .is (.int .u8 x1), .is (.int .i64 x1),
    .is (.slice (some ⟨b0, o, none⟩) b.length cap), .is (.pointer (some ⟨b0, o + 2, none⟩)), .is (.int .u8 x2), .is (.int .i64 x2), .is (.agg (vecA D)), .is (.agg (mcA ⟨2, x1, x2, D, .slice none 0 0, 0, 0⟩)), .rel (NewMc w4.heap.size) (NewMc.keep w4.heap.size)] (by kernel_rfl) (by simp) (by kernel_rfl) (by kernel_rfl) (by kernel_rfl) (by kernel_rfl) ?_
  simp only [List.take_succ_cons, List.take_zero, List.drop_succ_cons, List.drop_zero]
  refine lw_move rfl _ rfl _ rfl rfl ?_
  simp only [Act.put, List.setIfInBounds_toArray, List.set_cons_succ, List.set_cons_zero]
  refine lw_val rfl _ rfl (fun W hb' => ?_) ?_
  · have k0 := KK0.out W (TB.trans (hb'.mono hz1))
    have k1 := KK1.out W (TB.trans (hb'.mono hz1))
    have k2 := KK2.out W (TB.trans (hb'.mono hz1))
    have hlt : b0 < W.heap.size := by have := hb'.size; omega
    have l1 : ¬ b = [] := HNE.out
    have l2 : ¬ (b.length : Int) ≤ 1 := by omega
    have l3 : ¬ (b.length : Int) ≤ 2 := by omega
    simp [execOp, go_sem, k0, k1, k2, hlt, l1, l2, l3, W1.out, W2.out]
  simp only [Act.put, List.setIfInBounds_toArray, List.set_cons_succ, List.set_cons_zero]
  refine lw_val rfl _ rfl (fun W hb' => ?_) ?_
  · have k0 := KK0.out W (TB.trans (hb'.mono hz1))
    have k1 := KK1.out W (TB.trans (hb'.mono hz1))
    have k2 := KK2.out W (TB.trans (hb'.mono hz1))
    have hlt : b0 < W.heap.size := by have := hb'.size; omega
    have l1 : ¬ b = [] := HNE.out
    have l2 : ¬ (b.length : Int) ≤ 1 := by omega
    have l3 : ¬ (b.length : Int) ≤ 2 := by omega
    simp [execOp, go_sem, k0, k1, k2, hlt, l1, l2, l3, W1.out, W2.out]
  simp only [Act.put, List.setIfInBounds_toArray, List.set_cons_succ, List.set_cons_zero]
  refine lw_move rfl _ rfl _ rfl rfl ?_
  simp only [Act.put, List.setIfInBounds_toArray, List.set_cons_succ, List.set_cons_zero]
  refine lw_val rfl _ rfl (fun W hb' => ?_) ?_
  · have k0 := KK0.out W (TB.trans (hb'.mono hz1))
    have k1 := KK1.out W (TB.trans (hb'.mono hz1))
    have k2 := KK2.out W (TB.trans (hb'.mono hz1))
    have hlt : b0 < W.heap.size := by have := hb'.size; omega
    have l1 : ¬ b = [] := HNE.out
    have l2 : ¬ (b.length : Int) ≤ 1 := by omega
    have l3 : ¬ (b.length : Int) ≤ 2 := by omega
    simp [execOp, go_sem, k0, k1, k2, hlt, l1, l2, l3, W1.out, W2.out]
  simp only [Act.put, List.setIfInBounds_toArray, List.set_cons_succ, List.set_cons_zero]
  refine lw_val rfl _ rfl (fun W hb' => ?_) ?_
  · have k0 := KK0.out W (TB.trans (hb'.mono hz1))
    have k1 := KK1.out W (TB.trans (hb'.mono hz1))
    have k2 := KK2.out W (TB.trans (hb'.mono hz1))
    have hlt : b0 < W.heap.size := by have := hb'.size; omega
    have l1 : ¬ b = [] := HNE.out
    have l2 : ¬ (b.length : Int) ≤ 1 := by omega
    have l3 : ¬ (b.length : Int) ≤ 2 := by omega
    simp [execOp, go_sem, k0, k1, k2, hlt, l1, l2, l3, W1.out, W2.out]
  simp only [Act.put, List.setIfInBounds_toArray, List.set_cons_succ, List.set_cons_zero]
  refine lw_val rfl _ rfl (fun W hb' => ?_) ?_
  · have k0 := KK0.out W (TB.trans (hb'.mono hz1))
    have k1 := KK1.out W (TB.trans (hb'.mono hz1))
    have k2 := KK2.out W (TB.trans (hb'.mono hz1))
    have hlt : b0 < W.heap.size := by have := hb'.size; omega
    have l1 : ¬ b = [] := HNE.out
    have l2 : ¬ (b.length : Int) ≤ 1 := by omega
    have l3 : ¬ (b.length : Int) ≤ 2 := by omega
    simp [execOp, go_sem, k0, k1, k2, hlt, l1, l2, l3, W1.out, W2.out]
  simp only [Act.put, List.setIfInBounds_toArray, List.set_cons_succ, List.set_cons_zero]
  refine lw_move rfl _ rfl _ rfl rfl ?_
  simp only [Act.put, List.setIfInBounds_toArray, List.set_cons_succ, List.set_cons_zero]
  refine lw_val rfl _ rfl (fun W hb' => ?_) ?_
  · have k0 := KK0.out W (TB.trans (hb'.mono hz1))
    have k1 := KK1.out W (TB.trans (hb'.mono hz1))
    have k2 := KK2.out W (TB.trans (hb'.mono hz1))
    have hlt : b0 < W.heap.size := by have := hb'.size; omega
    have l1 : ¬ b = [] := HNE.out
    have l2 : ¬ (b.length : Int) ≤ 1 := by omega
    have l3 : ¬ (b.length : Int) ≤ 2 := by omega
    simp [execOp, go_sem, k0, k1, k2, hlt, l1, l2, l3, W1.out, W2.out]
  simp only [Act.put, List.setIfInBounds_toArray, List.set_cons_succ, List.set_cons_zero]
  refine lw_val rfl _ rfl (fun W hb' => ?_) ?_
  · have k0 := KK0.out W (TB.trans (hb'.mono hz1))
    have k1 := KK1.out W (TB.trans (hb'.mono hz1))
    have k2 := KK2.out W (TB.trans (hb'.mono hz1))
    have hlt : b0 < W.heap.size := by have := hb'.size; omega
    have l1 : ¬ b = [] := HNE.out
    have l2 : ¬ (b.length : Int) ≤ 1 := by omega
    have l3 : ¬ (b.length : Int) ≤ 2 := by omega
    simp [execOp, go_sem, k0, k1, k2, hlt, l1, l2, l3, W1.out, W2.out]
  simp only [Act.put, List.setIfInBounds_toArray, List.set_cons_succ, List.set_cons_zero]
  refine lw_val rfl _ rfl (fun W hb' => ?_) ?_
  · have k0 := KK0.out W (TB.trans (hb'.mono hz1))
    have k1 := KK1.out W (TB.trans (hb'.mono hz1))
    have k2 := KK2.out W (TB.trans (hb'.mono hz1))
    have hlt : b0 < W.heap.size := by have := hb'.size; omega
    have l1 : ¬ b = [] := HNE.out
    have l2 : ¬ (b.length : Int) ≤ 1 := by omega
    have l3 : ¬ (b.length : Int) ≤ 2 := by omega
    simp [execOp, go_sem, k0, k1, k2, hlt, l1, l2, l3, W1.out, W2.out]
  simp only [Act.put, List.setIfInBounds_toArray, List.set_cons_succ, List.set_cons_zero]
  refine lw_val rfl _ rfl (fun W hb' => ?_) ?_
  · obtain ⟨x0, -, -⟩ := (T4.call hb').rules
    obtain ⟨y0, -⟩ := (T4.call hb').lts
    simp [execOp, go_sem, x0, y0]
  simp only [Act.put, List.setIfInBounds_toArray, List.set_cons_succ, List.set_cons_zero]
  refine lw_val rfl _ rfl (fun W hb' => ?_) ?_
  · simp only [execOp_bM4]
    exact run_bM4 2 x1 x2 D W
  simp only [Act.put, List.setIfInBounds_toArray, List.set_cons_succ, List.set_cons_zero]
  refine lw_new rfl _ _ rfl (fun W hb' => ?_) ?_
  · refine ⟨.pointer (some ⟨W.heap.size, 0, none⟩), W.alloc (.cells (mcA Mc.zero) 54), ?_, (Below.refl _ _).alloc (Nat.le_refl _) _, ⟨W.heap.size, rfl, hb'.size, Blk.new _ _ _⟩⟩
    simp [execOp, go_sem]
  intro z
  simp only [Act.put, List.setIfInBounds_toArray, List.set_cons_succ, List.set_cons_zero]
  intro w5 hb5 hFz
  obtain ⟨g, rfl, hg, hBg⟩ : NewMc w4.heap.size z w5 := hFz 13 z (Or.inl ⟨rfl, rfl⟩)
  have T5 := (((T4.call hb5).cons hBg).perm (cs := [(g, 54, mcA Mc.zero), (w.heap.size, 54, mcA Mc.zero)]) (by simp))
  have hgw : w.heap.size < g := by omega
  have hgw2 : w.heap.size + 1 ≤ g := hgw
  clear hFz hb5 T4 TB hBg
  obtain ⟨qg, fg, q0, f0, -⟩ := T5.rules
  obtain ⟨lg, l0, -⟩ := T5.lts
  go_upto_region 6 with fail
  replace T5 := T5.setMc (by omega) ⟨by omega, trivial⟩ ⟨2, x1, x2, D, .slice none 0 0, 0, 0⟩
  dsimp only at T5
  generalize (World.setCell _ _ _) = w6 at T5 ⊢
  clear qg fg q0 f0 lg l0 hz1 hlt5 hne5 hg KK0 KK1 KK2 W1 W2
  obtain ⟨qg, fg, q0, f0, -⟩ := T5.rules
  obtain ⟨lg, l0, -⟩ := T5.lts
  go_wp2_with fail
  refine (CA.out _ T5.below).mono ?_
  rintro r w7 ⟨uL, rfl, ownL, hb7⟩
  obtain ⟨AL, cL, rfl, hcL, hmL, hRL⟩ := own_open ownL
  have T7 := T5.call hb7
  have hown0 := own_far (p := ⟨g, 9, none⟩) ownL lg (.slice AL L.length cL)
  have hbase : w.heap.size + 1 ≤ w6.heap.size := l0
  clear T5 hb7 CA qg fg q0 f0 lg l0 ownL hRL
  obtain ⟨qg, fg, q0, f0, -⟩ := T7.rules
  obtain ⟨lg, l0, -⟩ := T7.lts
  go_upto_region 15 with fail
  replace T7 := T7.set_ (by omega) ⟨by omega, trivial⟩ 9 (.slice AL L.length cL)
  rw [mcA_set9] at T7
  dsimp only at T7
  have hown := own_mono hown0 hbase
  generalize (World.setCell _ _ _) = w8 at T7 hown ⊢
  clear qg fg q0 f0 lg l0 hbase hown0
  obtain ⟨qg, fg, q0, f0, -⟩ := T7.rules
  obtain ⟨lg, l0, -⟩ := T7.lts
  have hrows : ERows w8 w8.heap.size AL L := Rd.of_own hown
  have CPW := Lib.hid fun W (hW : Below w8.heap.size w8 W) => CP.out AL cL W (hrows.next hW) hcL hmL
  have hBI : BytesIs b (.slice (some ⟨b0, o, none⟩) b.length cap) w8 := HB.out w8 T7.below
  clear hrows CP HB
  rcases hE2 with rfl | rfl
  · rcases hE1 with rfl | rfl
    · obtain ⟨v, hv⟩ : ∃ v, decide (P = b) = v := ⟨_, rfl⟩
      have HS := Lib.hid (show ((strOfNums P).toList == (strOfNums b).toList) = v from by rw [str_toList HPR.out HBY.out]; exact hv)
      rcases (show v = false ∨ v = true from by cases v <;> simp) with rfl | rfl
      · have HR := Lib.hid (show getM b = (Ms.zero, 5) from by rw [HG.out, if_neg fun h => of_decide_eq_false hv h.2.2])
        clear HG hv
        go_upto_region 17 with fail
        have hS := HS.out
        refine lw_region [.is (.int .i64 0), .is (.bool false), .is (.bool false), .is (.agg (mcA ⟨2, x1, x2, D, .slice AL L.length cL, 0, 0⟩)), .bytes P, .is (.string (strOfNums P)), .is (.slice (some ⟨b0, o, none⟩) b.length cap), .is (.string (strOfNums b)), .is (.bool true), .is (.bool true)] (by kernel_rfl) (by kernel_rfl) ?_
        repeat
          first
            | refine lw_move rfl _ rfl _ rfl rfl ?_
            | refine lw_pickF rfl _ _ _ rfl rfl _ rfl rfl ?_
            | ((refine lw_val rfl _ rfl (fun W hb' => ?_) ?_); (· obtain ⟨y0, -, -, -, -⟩ := (T7.call hb').rules; obtain ⟨m0, -, -⟩ := (T7.call hb').lts; simp [execOp, go_sem, y0, m0]; done))
            | ((refine lw_call_rel rfl 45 #[.agg (mcA ⟨2, x1, x2, D, .slice AL L.length cL, 0, 0⟩)] _ _ rfl ?_ (fun W hb' => gives_rel (CPW.out W hb')) ?_); (· intro w; simp [go_sem] <;> rfl); intro z)
            | refine lw_convR rfl _ rfl 4 _ rfl (by rfl) (by repeat (first | exact Or.inl ⟨rfl, rfl⟩ | apply Or.inr)) _ rfl rfl ?_
            | refine lw_conv rfl _ rfl _ rfl b hBI rfl ?_
            | ((refine lw_bin rfl _ _ _ _ _ rfl _ _ rfl rfl _ rfl ?_ ?_); (· intro ρ w h1 h2; simp [execOp, h1, h2, go_sem, bne, hS]))
          simp only [Act.put, List.setIfInBounds_toArray, List.set_cons_succ, List.set_cons_zero]
        intro w9 hb9
        have T79 := T7.call hb9
        clear T7 hb9 hown hS HS hBI CPW
        obtain ⟨qg, fg, q0, f0, -⟩ := T79.rules
        obtain ⟨lg, l0, -⟩ := T79.lts
        replace T79 := T79.perm (cs := [(w.heap.size, 54, mcA Mc.zero)]) (by simp)
        go_wp2_with fail
        replace T79 := T79.setMc (by omega) trivial Mc.zero
        simp only [mczero_k, mczero_f, mczero_t, mczero_d, mczero_s, mczero_n, mczero_a, vz0, vz1, vz2, vz3, vz4, vz5] at T79
        refine bodyPost_ret (v := .tuple #[.agg (mcA Mc.zero), .int .i64 5]) (results_get (s1 := 2) (s2 := 3) (by kernel_rfl) _ w.heap.size Mc.zero 5 _ rfl rfl (T79.blk _ _ _ List.mem_cons_self)) rfl ?_
        rw [HR.out]
        exact ⟨.slice none 0 0, rfl, World.ownsRow_nil _ _ _ _, T79.below⟩
      · have HR := Lib.hid (show getM b = (⟨2, x1, x2, D, L, 0, 0⟩, 0) from by rw [HG.out, if_pos ⟨rfl, rfl, of_decide_eq_true hv⟩])
        clear HG hv
        go_upto_region 17 with fail
        have hS := HS.out
        refine lw_region [.is (.int .i64 0), .is (.bool false), .is (.bool false), .is (.agg (mcA ⟨2, x1, x2, D, .slice AL L.length cL, 0, 0⟩)), .bytes P, .is (.string (strOfNums P)), .is (.slice (some ⟨b0, o, none⟩) b.length cap), .is (.string (strOfNums b)), .is (.bool false), .is (.bool false)] (by kernel_rfl) (by kernel_rfl) ?_
        repeat
          first
            | refine lw_move rfl _ rfl _ rfl rfl ?_
            | refine lw_pickF rfl _ _ _ rfl rfl _ rfl rfl ?_
            | ((refine lw_val rfl _ rfl (fun W hb' => ?_) ?_); (· obtain ⟨y0, -, -, -, -⟩ := (T7.call hb').rules; obtain ⟨m0, -, -⟩ := (T7.call hb').lts; simp [execOp, go_sem, y0, m0]; done))
            | ((refine lw_call_rel rfl 45 #[.agg (mcA ⟨2, x1, x2, D, .slice AL L.length cL, 0, 0⟩)] _ _ rfl ?_ (fun W hb' => gives_rel (CPW.out W hb')) ?_); (· intro w; simp [go_sem] <;> rfl); intro z)
            | refine lw_convR rfl _ rfl 4 _ rfl (by rfl) (by repeat (first | exact Or.inl ⟨rfl, rfl⟩ | apply Or.inr)) _ rfl rfl ?_
            | refine lw_conv rfl _ rfl _ rfl b hBI rfl ?_
            | ((refine lw_bin rfl _ _ _ _ _ rfl _ _ rfl rfl _ rfl ?_ ?_); (· intro ρ w h1 h2; simp [execOp, h1, h2, go_sem, bne, hS]))
          simp only [Act.put, List.setIfInBounds_toArray, List.set_cons_succ, List.set_cons_zero]
        intro w9 hb9
        have T79 := T7.call hb9
        clear hS HS hBI CPW
        have hown9 := ownsRow_below hown hb9
        clear T7 hb9 hown
        replace T79 := T79
        obtain ⟨qg, fg, q0, f0, -⟩ := T79.rules
        obtain ⟨lg, l0, -⟩ := T79.lts
        replace T79 := T79.perm (cs := [(w.heap.size, 54, mcA Mc.zero)]) (by simp)
        go_wp2_with fail
        replace T79 := T79.setMc (by omega) trivial ⟨2, x1, x2, D, .slice AL L.length cL, 0, 0⟩
        refine bodyPost_ret (v := .tuple #[.agg (mcA ⟨2, x1, x2, D, .slice AL L.length cL, 0, 0⟩), .int .i64 0]) (results_get (s1 := 2) (s2 := 3) (by kernel_rfl) _ w.heap.size ⟨2, x1, x2, D, .slice AL L.length cL, 0, 0⟩ 0 _ rfl rfl (T79.blk _ _ _ List.mem_cons_self)) rfl ?_
        rw [HR.out]
        refine ⟨.slice AL L.length cL, rfl, ?_, T79.below⟩
        refine own_mono ?_ (Nat.le_succ _)
        repeat refine own_far ?_ (Nat.lt_succ_self _) _
        exact hown9
    · have HR := Lib.hid (show getM b = (Ms.zero, 5) from by rw [HG.out, if_neg (by simp)])
      clear HG hown hBI CPW
      go_upto_region 17 with fail
      refine lw_region [.is (.int .i64 5), .is (.bool true), .is (.bool true), .is undef, .is undef, .is undef, .is undef, .is undef, .is undef, .is (.bool true)] (by kernel_rfl) (by kernel_rfl) ?_
      repeat
        first
          | refine lw_skip rfl ?_
          | refine lw_move rfl _ rfl _ rfl rfl ?_
          | refine lw_pickT rfl _ _ _ rfl rfl _ rfl rfl ?_
          | ((refine lw_bin rfl _ _ _ _ _ rfl _ _ rfl rfl _ rfl ?_ ?_); (· intro ρ w h1 h2; simp [execOp, h1, h2, go_sem]))
        simp only [Act.put, List.setIfInBounds_toArray, List.set_cons_succ, List.set_cons_zero]
      intro w9 hb9
      have T79 := T7.call hb9
      clear T7 hb9
      obtain ⟨qg, fg, q0, f0, -⟩ := T79.rules
      obtain ⟨lg, l0, -⟩ := T79.lts
      replace T79 := T79.perm (cs := [(w.heap.size, 54, mcA Mc.zero)]) (by simp)
      go_wp2_with fail
      replace T79 := T79.setMc (by omega) trivial Mc.zero
      simp only [mczero_k, mczero_f, mczero_t, mczero_d, mczero_s, mczero_n, mczero_a, vz0, vz1, vz2, vz3, vz4, vz5] at T79
      refine bodyPost_ret (v := .tuple #[.agg (mcA Mc.zero), .int .i64 5]) (results_get (s1 := 2) (s2 := 3) (by kernel_rfl) _ w.heap.size Mc.zero 5 _ rfl rfl (T79.blk _ _ _ List.mem_cons_self)) rfl ?_
      rw [HR.out]
      exact ⟨.slice none 0 0, rfl, World.ownsRow_nil _ _ _ _, T79.below⟩
  · have HR := Lib.hid (show getM b = (Ms.zero, 5) from by rw [HG.out, if_neg (by simp)])
    clear HG hown hBI CPW hE1
    go_upto_region 17 with fail
    refine lw_region [.is (.int .i64 5), .is (.bool true), .is (.bool true), .is undef, .is undef, .is undef, .is undef, .is undef, .is undef, .is (.bool true)] (by kernel_rfl) (by kernel_rfl) ?_
    repeat
      first
        | refine lw_skip rfl ?_
        | refine lw_move rfl _ rfl _ rfl rfl ?_
        | refine lw_pickT rfl _ _ _ rfl rfl _ rfl rfl ?_
        | ((refine lw_bin rfl _ _ _ _ _ rfl _ _ rfl rfl _ rfl ?_ ?_); (· intro ρ w h1 h2; simp [execOp, h1, h2, go_sem]))
      simp only [Act.put, List.setIfInBounds_toArray, List.set_cons_succ, List.set_cons_zero]
    intro w9 hb9
    have T79 := T7.call hb9
    clear T7 hb9
    obtain ⟨qg, fg, q0, f0, -⟩ := T79.rules
    obtain ⟨lg, l0, -⟩ := T79.lts
    replace T79 := T79.perm (cs := [(w.heap.size, 54, mcA Mc.zero)]) (by simp)
    go_wp2_with fail
    replace T79 := T79.setMc (by omega) trivial Mc.zero
    simp only [mczero_k, mczero_f, mczero_t, mczero_d, mczero_s, mczero_n, mczero_a, vz0, vz1, vz2, vz3, vz4, vz5] at T79
    refine bodyPost_ret (v := .tuple #[.agg (mcA Mc.zero), .int .i64 5]) (results_get (s1 := 2) (s2 := 3) (by kernel_rfl) _ w.heap.size Mc.zero 5 _ rfl rfl (T79.blk _ _ _ List.mem_cons_self)) rfl ?_
    rw [HR.out]
    exact ⟨.slice none 0 0, rfl, World.ownsRow_nil _ _ _ _, T79.below⟩
end Go.Proofs.Ytolfnilickfneaa
