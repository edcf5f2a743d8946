/-
  The walk of package message: Get, kind, kind.
-/
import Derived.Test.YtolfnilickfneaaGJ
import Derived.Test.YtolfnilickfneaaRl
namespace Go.Proofs.Ytolfnilickfneaa
set_option linter.unusedVariables false
set_option linter.unusedSimpArgs false
open Go.RowKit
set_option maxRecDepth 100000

set_option maxHeartbeats 4000000 in
theorem mget_kind (b0 o cap : Nat) (b : List Int) (w : World) (hc : ∀ i x, b[i]? = some x → w.cell? ⟨b0, o + i, none⟩ = some (.int .u8 x)) (hb : b0 < w.heap.size) (hn : b.length ≤ cap) (hm : cap ≤ maxLen) (hby : ∀ c ∈ b, 0 ≤ c ∧ c ≤ 255) (h51 : 51 ≤ b.length) (hlen : b.length ≤ 10000) (hcap : ¬ cap = 51) (k1 : b.getD 0 0 ≠ 1) (k2 : b.getD 0 0 ≠ 2) :
    Calls Try.prog 40 #[.slice (some ⟨b0, o, none⟩) b.length cap] w (GivesM (getM b) w) := by
  have hm1 : cap ≤ 9223372036854775807 := hm
  obtain ⟨x0, hx0⟩ : ∃ x, b[0]? = some x := ⟨b[0]'(by omega), List.getElem?_eq_getElem (by omega)⟩
  obtain ⟨x1, hx1⟩ : ∃ x, b[1]? = some x := ⟨b[1]'(by omega), List.getElem?_eq_getElem (by omega)⟩
  obtain ⟨x2, hx2⟩ : ∃ x, b[2]? = some x := ⟨b[2]'(by omega), List.getElem?_eq_getElem (by omega)⟩
  have g0 : b.getD 0 0 = x0 := by rw [List.getD_eq_getElem?_getD, hx0]; rfl
  have g1 : b.getD 1 0 = x1 := by rw [List.getD_eq_getElem?_getD, hx1]; rfl
  have g2 : b.getD 2 0 = x2 := by rw [List.getD_eq_getElem?_getD, hx2]; rfl
  have KK0 := Lib.hid fun W (hW : Below w.heap.size w W) => show W.cell? ⟨b0, o, none⟩ = some (.int .u8 x0) from (hW.cell (p := ⟨b0, o + 0, none⟩) hb).trans (hc 0 x0 hx0)
  have KK1 := Lib.hid fun W (hW : Below w.heap.size w W) => show W.cell? ⟨b0, o + 1, none⟩ = some (.int .u8 x1) from (hW.cell (p := ⟨b0, o + 1, none⟩) hb).trans (hc 1 x1 hx1)
  have KK2 := Lib.hid fun W (hW : Below w.heap.size w W) => show W.cell? ⟨b0, o + 2, none⟩ = some (.int .u8 x2) from (hW.cell (p := ⟨b0, o + 2, none⟩) hb).trans (hc 2 x2 hx2)
  have W1 := Lib.hid (show IntKind.i64.wrap x1 = x1 from IntWalk.i64_in _ (by have := hby x1 (List.mem_of_getElem? hx1); omega))
  have W2 := Lib.hid (show IntKind.i64.wrap x2 = x2 from IntWalk.i64_in _ (by have := hby x2 (List.mem_of_getElem? hx2); omega))
  have hrl : (b.drop 51).length = (b.length - 51) := by rw [List.length_drop]
  have hrr : ∀ c ∈ b.drop 51, 0 ≤ c ∧ c ≤ 255 := fun c hcm => hby c (List.mem_of_mem_drop hcm)
  have hrc : ∀ W, Below w.heap.size w W → ∀ i x, (b.drop 51)[i]? = some x → W.cell? ⟨b0, o + 51 + i, none⟩ = some (.int .u8 x) := fun W hW i x hx => by
    rw [List.getElem?_drop] at hx
    rw [Nat.add_assoc]
    exact (hW.cell (p := ⟨b0, _, none⟩) hb).trans (hc _ x hx)
  have CV := Lib.hid fun W (hW : Below w.heap.size w W) => (show Calls Try.prog 59 #[.slice (some ⟨b0, o + 3, none⟩) 48 (cap - 3)] W (fun e w' => e = .returned (.tuple #[.agg (vecA (vofP ((b.drop 3).take 48)).1), .int .i64 (vofP ((b.drop 3).take 48)).2]) ∧ Below W.heap.size W w') from by
    have h48 : ((b.drop 3).take 48).length = 48 := by rw [List.length_take, List.length_drop]; omega
    have := vof (some ⟨b0, o + 3, none⟩) (cap - 3) ((b.drop 3).take 48) w.heap.size W (fun _ => ⟨b0, o + 3, rfl, hb, fun i x hi => by
      have hi48 : i < 48 := by rw [← h48]; exact (List.getElem?_eq_some_iff.1 hi).1
      rw [List.getElem?_take, if_pos hi48, List.getElem?_drop] at hi
      rw [Nat.add_assoc]
      exact (hW.cell (p := ⟨b0, _, none⟩) hb).trans (hc _ x hi)⟩) hW.size (by omega) (by omega) (fun c hcm => hby c (List.mem_of_mem_drop (List.mem_of_mem_take hcm)))
    rw [h48] at this
    exact this)
  have HB := Lib.hid fun W (hW : Below w.heap.size w W) => (show BytesIs b (.slice (some ⟨b0, o, none⟩) b.length cap) W from ⟨_, _, rfl, hn, hm, fun _ => ⟨b0, o, rfl, Nat.lt_of_lt_of_le hb hW.size, fun i x hi => (hW.cell (p := ⟨b0, _, none⟩) hb).trans (hc i x hi)⟩⟩)
  have okM := readM_ok b hby
  have HNE := Lib.hid (show ¬ b = [] from by rintro rfl; simp at h51)
  have hM : readM b = ⟨x0, x1, x2, (vofP ((b.drop 3).take 48)).1, [], 0, 0⟩ := by
    unfold readM
    simp only [g1, g2]
    rw [if_neg k1, if_neg k2, if_neg k2, g0]
  have hG : getM b = if putM (readM b) = b then (readM b, 0) else (Ms.zero, 5) := by unfold getM; simp only [h51, true_and]
  rw [hM] at okM hG
  generalize hD : (vofP ((b.drop 3).take 48)).1 = D at CV okM hG hM
  generalize (vofP ((b.drop 3).take 48)).2 = er at CV
  have CP := Lib.hid fun (A' : Option Addr) (c' : Nat) (W : World) (hr : ERows W W.heap.size A' (⟨x0, x1, x2, D, [], 0, 0⟩ : Ms).l) (h1 : (⟨x0, x1, x2, D, [], 0, 0⟩ : Ms).l.length ≤ c') (h2 : c' ≤ maxLen) => mput ⟨x0, x1, x2, D, [], 0, 0⟩ okM A' c' W hr h1 h2
  have hPr := putM_range ⟨x0, x1, x2, D, [], 0, 0⟩
  generalize putM ⟨x0, x1, x2, D, [], 0, 0⟩ = P at CP hG hPr
  have HG := Lib.hid hG
  have HPR := Lib.hid hPr
  have HBY := Lib.hid hby
  have e1 : (x0 == 1) = false := by rw [beq_eq_false_iff_ne, ← g0]; exact k1
  have e2 : (x0 == 2) = false := by rw [beq_eq_false_iff_ne, ← g0]; exact k2
  clear k1 k2
  clear hc hG hPr hby hM hD okM hrl hrr hrc hx0 hx1 hx2 g0 g1 g2
  go_enter Try.func40, Try.ntmps40
  go_upto_region 3 with fail
  have T : Trk w _ [(w.heap.size, 54, mcA Mc.zero)] := (Trk.nil w).push (t := 54) (cs := mcA Mc.zero) rfl
  generalize w.alloc _ = w1 at T ⊢
  have TB := T.below
  have hz1 := TB.size
  have hlt1 := T.lt
  refine wp_region_post 12 [.is (.slice (some ⟨b0, o, none⟩) b.length cap), .is (.pointer (some ⟨b0, o, none⟩)), .is (.int .u8 x0), .is (.slice (some ⟨b0, o, none⟩) b.length cap), .is (.pointer (some ⟨b0, o + 1, none⟩)), .is (.int .u8 x1), .is (.int .i64 x1),
    .is (.slice (some ⟨b0, o, none⟩) b.length cap), .is (.pointer (some ⟨b0, o + 2, none⟩)), .is (.int .u8 x2), .is (.int .i64 x2), .is (.agg (mcA ⟨x0, x1, x2, Vec.zero, .slice none 0 0, 0, 0⟩))] (by kernel_rfl) (by simp) (by kernel_rfl) (by kernel_rfl) (by kernel_rfl) (by kernel_rfl) ?_
  simp only [List.take_succ_cons, List.take_zero, List.drop_succ_cons, List.drop_zero]
  refine lw_move rfl _ rfl _ rfl rfl ?_
  simp only [Act.put, List.setIfInBounds_toArray, List.set_cons_succ, List.set_cons_zero]
  refine lw_val rfl _ rfl (fun W hb' => ?_) ?_
  · have k0 := KK0.out W (TB.trans (hb'.mono hz1))
    have k1 := KK1.out W (TB.trans (hb'.mono hz1))
    have k2 := KK2.out W (TB.trans (hb'.mono hz1))
    have hlt : b0 < W.heap.size := by have := hb'.size; omega
    have l1 : ¬ b = [] := HNE.out
    have l2 : ¬ (b.length : Int) ≤ 1 := by omega
    have l3 : ¬ (b.length : Int) ≤ 2 := by omega
    simp [execOp, go_sem, k0, k1, k2, hlt, l1, l2, l3, W1.out, W2.out]
  simp only [Act.put, List.setIfInBounds_toArray, List.set_cons_succ, List.set_cons_zero]
  refine lw_val rfl _ rfl (fun W hb' => ?_) ?_
  · have k0 := KK0.out W (TB.trans (hb'.mono hz1))
    have k1 := KK1.out W (TB.trans (hb'.mono hz1))
    have k2 := KK2.out W (TB.trans (hb'.mono hz1))
    have hlt : b0 < W.heap.size := by have := hb'.size; omega
    have l1 : ¬ b = [] := HNE.out
    have l2 : ¬ (b.length : Int) ≤ 1 := by omega
    have l3 : ¬ (b.length : Int) ≤ 2 := by omega
    simp [execOp, go_sem, k0, k1, k2, hlt, l1, l2, l3, W1.out, W2.out]
  simp only [Act.put, List.setIfInBounds_toArray, List.set_cons_succ, List.set_cons_zero]
  refine lw_move rfl _ rfl _ rfl rfl ?_
  simp only [Act.put, List.setIfInBounds_toArray, List.set_cons_succ, List.set_cons_zero]
  refine lw_val rfl _ rfl (fun W hb' => ?_) ?_
  · have k0 := KK0.out W (TB.trans (hb'.mono hz1))
    have k1 := KK1.out W (TB.trans (hb'.mono hz1))
    have k2 := KK2.out W (TB.trans (hb'.mono hz1))
    have hlt : b0 < W.heap.size := by have := hb'.size; omega
    have l1 : ¬ b = [] := HNE.out
    have l2 : ¬ (b.length : Int) ≤ 1 := by omega
    have l3 : ¬ (b.length : Int) ≤ 2 := by omega
    simp [execOp, go_sem, k0, k1, k2, hlt, l1, l2, l3, W1.out, W2.out]
  simp only [Act.put, List.setIfInBounds_toArray, List.set_cons_succ, List.set_cons_zero]
  refine lw_val rfl _ rfl (fun W hb' => ?_) ?_
  · have k0 := KK0.out W (TB.trans (hb'.mono hz1))
    have k1 := KK1.out W (TB.trans (hb'.mono hz1))
    have k2 := KK2.out W (TB.trans (hb'.mono hz1))
    have hlt : b0 < W.heap.size := by have := hb'.size; omega
    have l1 : ¬ b = [] := HNE.out
    have l2 : ¬ (b.length : Int) ≤ 1 := by omega
    have l3 : ¬ (b.length : Int) ≤ 2 := by omega
    simp [execOp, go_sem, k0, k1, k2, hlt, l1, l2, l3, W1.out, W2.out]
  simp only [Act.put, List.setIfInBounds_toArray, List.set_cons_succ, List.set_cons_zero]
  refine lw_val rfl _ rfl (fun W hb' => ?_) ?_
  · have k0 := KK0.out W (TB.trans (hb'.mono hz1))
    have k1 := KK1.out W (TB.trans (hb'.mono hz1))
    have k2 := KK2.out W (TB.trans (hb'.mono hz1))
    have hlt : b0 < W.heap.size := by have := hb'.size; omega
    have l1 : ¬ b = [] := HNE.out
    have l2 : ¬ (b.length : Int) ≤ 1 := by omega
    have l3 : ¬ (b.length : Int) ≤ 2 := by omega
    simp [execOp, go_sem, k0, k1, k2, hlt, l1, l2, l3, W1.out, W2.out]
  simp only [Act.put, List.setIfInBounds_toArray, List.set_cons_succ, List.set_cons_zero]
  refine lw_move rfl _ rfl _ rfl rfl ?_
  simp only [Act.put, List.setIfInBounds_toArray, List.set_cons_succ, List.set_cons_zero]
  refine lw_val rfl _ rfl (fun W hb' => ?_) ?_
  · have k0 := KK0.out W (TB.trans (hb'.mono hz1))
    have k1 := KK1.out W (TB.trans (hb'.mono hz1))
    have k2 := KK2.out W (TB.trans (hb'.mono hz1))
    have hlt : b0 < W.heap.size := by have := hb'.size; omega
    have l1 : ¬ b = [] := HNE.out
    have l2 : ¬ (b.length : Int) ≤ 1 := by omega
    have l3 : ¬ (b.length : Int) ≤ 2 := by omega
    simp [execOp, go_sem, k0, k1, k2, hlt, l1, l2, l3, W1.out, W2.out]
  simp only [Act.put, List.setIfInBounds_toArray, List.set_cons_succ, List.set_cons_zero]
  refine lw_val rfl _ rfl (fun W hb' => ?_) ?_
  · have k0 := KK0.out W (TB.trans (hb'.mono hz1))
    have k1 := KK1.out W (TB.trans (hb'.mono hz1))
    have k2 := KK2.out W (TB.trans (hb'.mono hz1))
    have hlt : b0 < W.heap.size := by have := hb'.size; omega
    have l1 : ¬ b = [] := HNE.out
    have l2 : ¬ (b.length : Int) ≤ 1 := by omega
    have l3 : ¬ (b.length : Int) ≤ 2 := by omega
    simp [execOp, go_sem, k0, k1, k2, hlt, l1, l2, l3, W1.out, W2.out]
  simp only [Act.put, List.setIfInBounds_toArray, List.set_cons_succ, List.set_cons_zero]
  refine lw_val rfl _ rfl (fun W hb' => ?_) ?_
  · have k0 := KK0.out W (TB.trans (hb'.mono hz1))
    have k1 := KK1.out W (TB.trans (hb'.mono hz1))
    have k2 := KK2.out W (TB.trans (hb'.mono hz1))
    have hlt : b0 < W.heap.size := by have := hb'.size; omega
    have l1 : ¬ b = [] := HNE.out
    have l2 : ¬ (b.length : Int) ≤ 1 := by omega
    have l3 : ¬ (b.length : Int) ≤ 2 := by omega
    simp [execOp, go_sem, k0, k1, k2, hlt, l1, l2, l3, W1.out, W2.out]
  simp only [Act.put, List.setIfInBounds_toArray, List.set_cons_succ, List.set_cons_zero]
  refine lw_val rfl _ rfl (fun W hb' => ?_) ?_
  · simp only [execOp_bM3]
    exact run_bM3 x0 x1 x2 W
  simp only [Act.put, List.setIfInBounds_toArray, List.set_cons_succ, List.set_cons_zero]
  intro w2 hb2 hFz
  have T2 := T.call hb2
  clear hFz hb2 T TB
  obtain ⟨q0, f0, -⟩ := T2.rules
  have l0 := T2.lt
  go_upto_region 4 with fail
  replace T2 := T2.setMc (by omega) trivial ⟨x0, x1, x2, Vec.zero, .slice none 0 0, 0, 0⟩
  dsimp only at T2
  simp only [vz0, vz1, vz2, vz3, vz4, vz5] at T2
  generalize (World.setCell _ _ _) = w3 at T2 ⊢
  clear q0 f0 l0 hz1 hlt1 KK0 KK1 KK2 W1 W2
  go_wp2_with fail
  refine (CV.out _ T2.below).mono ?_
  rintro r w4 ⟨rfl, hb4⟩
  have T4 := T2.call hb4
  clear T2 hb4 CV
  obtain ⟨q0, f0, -⟩ := T4.rules
  have l0 := T4.lt
  go_upto_region 5 with fail
  replace T4 := (((((T4.set_ (by omega) trivial 3 (.int .u64 D.v0)).set_ (by omega) trivial 4 (.int .u64 D.v1)).set_ (by omega) trivial 5 (.int .u64 D.v2)).set_ (by omega) trivial 6 (.int .u64 D.v3)).set_ (by omega) trivial 7 (.int .u64 D.v4)).set_ (by omega) trivial 8 (.int .u64 D.v5)
  rw [mcA_set3, mcA_set4, mcA_set5, mcA_set6, mcA_set7, mcA_set8] at T4
  dsimp only at T4
  rw [vec_eta] at T4
  generalize (World.setCell _ _ _) = w5 at T4 ⊢
  clear q0 f0 l0
  obtain ⟨q0, f0, -⟩ := T4.rules
  have l0 := T4.lt
  go_upto_region 13 with fail
  have T6 := T4
  clear T4 q0 f0 l0
  generalize w5 = w7 at T6 ⊢
  have hown : w7.ownsRow (w.heap.size + 1) 41 14 (.slice none 0 0) ([] : List Ev).length (ecells []) := World.ownsRow_nil _ _ _ _
  have hrows : ERows w7 w7.heap.size none [] := Rd.of_own hown
  obtain ⟨q0, f0, -⟩ := T6.rules
  have l0 := T6.lt
  go_wp2_with fail
  refine (CP.out none 0 w7 hrows (Nat.le_refl _) (by decide)).mono ?_
  rintro r w8 ⟨u8, rfl, own8, hb8⟩
  obtain ⟨A5, c5, hu, hc5, hm5, hR5⟩ := own_open own8
  have T8 := T6.call hb8
  have hown8 := ownsRow_below hown hb8
  have hbs8 : BytesIs P u8 w8 := BytesIs.of_own own8
  obtain ⟨nP, hnP⟩ : ∃ n, n = P.length := ⟨_, rfl⟩
  rw [← hnP] at hu
  subst hu
  clear T6 hb8 hown own8 hR5 q0 f0 l0 hrows CP
  obtain ⟨q0, f0, -⟩ := T8.rules
  have l0 := T8.lt
  by_cases hz : nP = 0
  · have hP0 : P = [] := List.eq_nil_of_length_eq_zero (by omega)
    have HR := Lib.hid (show getM b = (Ms.zero, 5) from by rw [HG.out, if_neg (by rintro rfl; rw [hP0] at h51; simp at h51)])
    have e0 : ((nP : Int) == 0) = true := by rw [hz]; rfl
    clear HG hP0 hnP hbs8
    subst hz
    go_wp2_with fail
    replace T8 := T8.setMc (by omega) trivial Mc.zero
    simp only [mczero_k, mczero_f, mczero_t, mczero_d, mczero_s, mczero_n, mczero_a, vz0, vz1, vz2, vz3, vz4, vz5] at T8
    refine bodyPost_ret (v := .tuple #[.agg (mcA Mc.zero), .int .i64 5]) (results_get (s1 := 2) (s2 := 3) (by kernel_rfl) _ w.heap.size Mc.zero 5 _ rfl rfl (T8.blk _ _ _ List.mem_cons_self)) rfl ?_
    rw [HR.out]
    exact ⟨.slice none 0 0, rfl, World.ownsRow_nil _ _ _ _, T8.below⟩
  · have e0 : ((nP : Int) == 0) = false := by rw [beq_eq_false_iff_ne]; omega
    obtain ⟨v, hv⟩ : ∃ v, decide (P = b) = v := ⟨_, rfl⟩
    have hbq := HB.out w8 T8.below
    rw [hnP] at hbs8
    have ce := bequal A5 (some ⟨b0, o, none⟩) c5 cap P b w8 hbs8 hbq HPR.out HBY.out v hv
    rw [← hnP] at ce
    have CE := Lib.hid ce
    clear ce hbs8 hbq hnP
    rcases (show v = false ∨ v = true from by cases v <;> simp) with rfl | rfl
    · have HR := Lib.hid (show getM b = (Ms.zero, 5) from by rw [HG.out, if_neg (of_decide_eq_false hv)])
      clear HG hv
      go_wp2_with fail
      refine CE.out.mono ?_
      rintro r w9 ⟨rfl, hb9⟩
      have T9 := T8.call hb9
      clear T8 hb9 q0 f0 l0
      obtain ⟨q0, f0, -⟩ := T9.rules
      have l0 := T9.lt
      go_wp2_with fail
      replace T9 := T9.setMc (by omega) trivial Mc.zero
      simp only [mczero_k, mczero_f, mczero_t, mczero_d, mczero_s, mczero_n, mczero_a, vz0, vz1, vz2, vz3, vz4, vz5] at T9
      refine bodyPost_ret (v := .tuple #[.agg (mcA Mc.zero), .int .i64 5]) (results_get (s1 := 2) (s2 := 3) (by kernel_rfl) _ w.heap.size Mc.zero 5 _ rfl rfl (T9.blk _ _ _ List.mem_cons_self)) rfl ?_
      rw [HR.out]
      exact ⟨.slice none 0 0, rfl, World.ownsRow_nil _ _ _ _, T9.below⟩
    · have HR := Lib.hid (show getM b = (⟨x0, x1, x2, D, [], 0, 0⟩, 0) from by rw [HG.out, if_pos (of_decide_eq_true hv)])
      clear HG hv
      go_wp2_with fail
      refine CE.out.mono ?_
      rintro r w9 ⟨rfl, hb9⟩
      have T9 := T8.call hb9
      have hown9 := ownsRow_below hown8 hb9
      clear T8 hb9 q0 f0 l0 hown8
      obtain ⟨q0, f0, -⟩ := T9.rules
      have l0 := T9.lt
      go_wp2_with fail
      replace T9 := T9.setMc (by omega) trivial ⟨x0, x1, x2, D, .slice none 0 0, 0, 0⟩
      refine bodyPost_ret (v := .tuple #[.agg (mcA ⟨x0, x1, x2, D, .slice none 0 0, 0, 0⟩), .int .i64 0]) (results_get (s1 := 2) (s2 := 3) (by kernel_rfl) _ w.heap.size ⟨x0, x1, x2, D, .slice none 0 0, 0, 0⟩ 0 _ rfl rfl (T9.blk _ _ _ List.mem_cons_self)) rfl ?_
      rw [HR.out]
      refine ⟨.slice none 0 0, rfl, ?_, T9.below⟩
      refine own_mono ?_ (Nat.le_succ _)
      repeat refine own_far ?_ (Nat.lt_succ_self _) _
      exact hown9
set_option maxHeartbeats 4000000 in
theorem mget_kind51 (b0 o cap : Nat) (b : List Int) (w : World) (hc : ∀ i x, b[i]? = some x → w.cell? ⟨b0, o + i, none⟩ = some (.int .u8 x)) (hb : b0 < w.heap.size) (hn : b.length ≤ cap) (hm : cap ≤ maxLen) (hby : ∀ c ∈ b, 0 ≤ c ∧ c ≤ 255) (h51 : 51 ≤ b.length) (hlen : b.length ≤ 10000) (hcap : cap = 51) (k1 : b.getD 0 0 ≠ 1) (k2 : b.getD 0 0 ≠ 2) :
    Calls Try.prog 40 #[.slice (some ⟨b0, o, none⟩) b.length cap] w (GivesM (getM b) w) := by
  have hm1 : cap ≤ 9223372036854775807 := hm
  subst hcap
  have hnb : b.length = 51 := by omega
  rw [hnb]
  obtain ⟨x0, hx0⟩ : ∃ x, b[0]? = some x := ⟨b[0]'(by omega), List.getElem?_eq_getElem (by omega)⟩
  obtain ⟨x1, hx1⟩ : ∃ x, b[1]? = some x := ⟨b[1]'(by omega), List.getElem?_eq_getElem (by omega)⟩
  obtain ⟨x2, hx2⟩ : ∃ x, b[2]? = some x := ⟨b[2]'(by omega), List.getElem?_eq_getElem (by omega)⟩
  have g0 : b.getD 0 0 = x0 := by rw [List.getD_eq_getElem?_getD, hx0]; rfl
  have g1 : b.getD 1 0 = x1 := by rw [List.getD_eq_getElem?_getD, hx1]; rfl
  have g2 : b.getD 2 0 = x2 := by rw [List.getD_eq_getElem?_getD, hx2]; rfl
  have KK0 := Lib.hid fun W (hW : Below w.heap.size w W) => show W.cell? ⟨b0, o, none⟩ = some (.int .u8 x0) from (hW.cell (p := ⟨b0, o + 0, none⟩) hb).trans (hc 0 x0 hx0)
  have KK1 := Lib.hid fun W (hW : Below w.heap.size w W) => show W.cell? ⟨b0, o + 1, none⟩ = some (.int .u8 x1) from (hW.cell (p := ⟨b0, o + 1, none⟩) hb).trans (hc 1 x1 hx1)
  have KK2 := Lib.hid fun W (hW : Below w.heap.size w W) => show W.cell? ⟨b0, o + 2, none⟩ = some (.int .u8 x2) from (hW.cell (p := ⟨b0, o + 2, none⟩) hb).trans (hc 2 x2 hx2)
  have W1 := Lib.hid (show IntKind.i64.wrap x1 = x1 from IntWalk.i64_in _ (by have := hby x1 (List.mem_of_getElem? hx1); omega))
  have W2 := Lib.hid (show IntKind.i64.wrap x2 = x2 from IntWalk.i64_in _ (by have := hby x2 (List.mem_of_getElem? hx2); omega))
  have hrl : (b.drop 51).length = 0 := by rw [List.length_drop, hnb]
  have hrr : ∀ c ∈ b.drop 51, 0 ≤ c ∧ c ≤ 255 := fun c hcm => hby c (List.mem_of_mem_drop hcm)
  have hrc : ∀ W, Below w.heap.size w W → ∀ i x, (b.drop 51)[i]? = some x → W.cell? ⟨b0, o + 51 + i, none⟩ = some (.int .u8 x) := fun W hW i x hx => by
    rw [List.getElem?_drop] at hx
    rw [Nat.add_assoc]
    exact (hW.cell (p := ⟨b0, _, none⟩) hb).trans (hc _ x hx)
  have CV := Lib.hid fun W (hW : Below w.heap.size w W) => (show Calls Try.prog 59 #[.slice (some ⟨b0, o + 3, none⟩) 48 48] W (fun e w' => e = .returned (.tuple #[.agg (vecA (vofP ((b.drop 3).take 48)).1), .int .i64 (vofP ((b.drop 3).take 48)).2]) ∧ Below W.heap.size W w') from by
    have h48 : ((b.drop 3).take 48).length = 48 := by rw [List.length_take, List.length_drop]; omega
    have := vof (some ⟨b0, o + 3, none⟩) 48 ((b.drop 3).take 48) w.heap.size W (fun _ => ⟨b0, o + 3, rfl, hb, fun i x hi => by
      have hi48 : i < 48 := by rw [← h48]; exact (List.getElem?_eq_some_iff.1 hi).1
      rw [List.getElem?_take, if_pos hi48, List.getElem?_drop] at hi
      rw [Nat.add_assoc]
      exact (hW.cell (p := ⟨b0, _, none⟩) hb).trans (hc _ x hi)⟩) hW.size (by omega) (by omega) (fun c hcm => hby c (List.mem_of_mem_drop (List.mem_of_mem_take hcm)))
    rw [h48] at this
    exact this)
  have HB := Lib.hid fun W (hW : Below w.heap.size w W) => (show BytesIs b (.slice (some ⟨b0, o, none⟩) b.length 51) W from ⟨_, _, rfl, hn, hm, fun _ => ⟨b0, o, rfl, Nat.lt_of_lt_of_le hb hW.size, fun i x hi => (hW.cell (p := ⟨b0, _, none⟩) hb).trans (hc i x hi)⟩⟩)
  have okM := readM_ok b hby
  have HNE := Lib.hid (show ¬ b = [] from by rintro rfl; simp at h51)
  have hM : readM b = ⟨x0, x1, x2, (vofP ((b.drop 3).take 48)).1, [], 0, 0⟩ := by
    unfold readM
    simp only [g1, g2]
    rw [if_neg k1, if_neg k2, if_neg k2, g0]
  have hG : getM b = if putM (readM b) = b then (readM b, 0) else (Ms.zero, 5) := by unfold getM; simp only [h51, true_and]
  rw [hM] at okM hG
  generalize hD : (vofP ((b.drop 3).take 48)).1 = D at CV okM hG hM
  generalize (vofP ((b.drop 3).take 48)).2 = er at CV
  have CP := Lib.hid fun (A' : Option Addr) (c' : Nat) (W : World) (hr : ERows W W.heap.size A' (⟨x0, x1, x2, D, [], 0, 0⟩ : Ms).l) (h1 : (⟨x0, x1, x2, D, [], 0, 0⟩ : Ms).l.length ≤ c') (h2 : c' ≤ maxLen) => mput ⟨x0, x1, x2, D, [], 0, 0⟩ okM A' c' W hr h1 h2
  have hPr := putM_range ⟨x0, x1, x2, D, [], 0, 0⟩
  generalize putM ⟨x0, x1, x2, D, [], 0, 0⟩ = P at CP hG hPr
  have HG := Lib.hid hG
  have HPR := Lib.hid hPr
  have HBY := Lib.hid hby
  have HNB := Lib.hid hnb
  clear hnb
  have e1 : (x0 == 1) = false := by rw [beq_eq_false_iff_ne, ← g0]; exact k1
  have e2 : (x0 == 2) = false := by rw [beq_eq_false_iff_ne, ← g0]; exact k2
  clear k1 k2
  clear hc hG hPr hby hM hD okM hrl hrr hrc hx0 hx1 hx2 g0 g1 g2
  go_enter Try.func40, Try.ntmps40
  go_upto_region 3 with fail
  have T : Trk w _ [(w.heap.size, 54, mcA Mc.zero)] := (Trk.nil w).push (t := 54) (cs := mcA Mc.zero) rfl
  generalize w.alloc _ = w1 at T ⊢
  have TB := T.below
  have hz1 := TB.size
  have hlt1 := T.lt
  refine wp_region_post 12 [.is (.slice (some ⟨b0, o, none⟩) 51 51), .is (.pointer (some ⟨b0, o, none⟩)), .is (.int .u8 x0), .is (.slice (some ⟨b0, o, none⟩) 51 51), .is (.pointer (some ⟨b0, o + 1, none⟩)), .is (.int .u8 x1), .is (.int .i64 x1),
    .is (.slice (some ⟨b0, o, none⟩) 51 51), .is (.pointer (some ⟨b0, o + 2, none⟩)), .is (.int .u8 x2), .is (.int .i64 x2), .is (.agg (mcA ⟨x0, x1, x2, Vec.zero, .slice none 0 0, 0, 0⟩))] (by kernel_rfl) (by simp) (by kernel_rfl) (by kernel_rfl) (by kernel_rfl) (by kernel_rfl) ?_
  simp only [List.take_succ_cons, List.take_zero, List.drop_succ_cons, List.drop_zero]
  refine lw_move rfl _ rfl _ rfl rfl ?_
  simp only [Act.put, List.setIfInBounds_toArray, List.set_cons_succ, List.set_cons_zero]
  refine lw_val rfl _ rfl (fun W hb' => ?_) ?_
  · have k0 := KK0.out W (TB.trans (hb'.mono hz1))
    have k1 := KK1.out W (TB.trans (hb'.mono hz1))
    have k2 := KK2.out W (TB.trans (hb'.mono hz1))
    have hlt : b0 < W.heap.size := by have := hb'.size; omega
    have l1 : ¬ b = [] := HNE.out
    have l2 : ¬ (51 : Int) ≤ 1 := by omega
    have l3 : ¬ (51 : Int) ≤ 2 := by omega
    simp [execOp, go_sem, k0, k1, k2, hlt, l1, l2, l3, W1.out, W2.out]
  simp only [Act.put, List.setIfInBounds_toArray, List.set_cons_succ, List.set_cons_zero]
  refine lw_val rfl _ rfl (fun W hb' => ?_) ?_
  · have k0 := KK0.out W (TB.trans (hb'.mono hz1))
    have k1 := KK1.out W (TB.trans (hb'.mono hz1))
    have k2 := KK2.out W (TB.trans (hb'.mono hz1))
    have hlt : b0 < W.heap.size := by have := hb'.size; omega
    have l1 : ¬ b = [] := HNE.out
    have l2 : ¬ (51 : Int) ≤ 1 := by omega
    have l3 : ¬ (51 : Int) ≤ 2 := by omega
    simp [execOp, go_sem, k0, k1, k2, hlt, l1, l2, l3, W1.out, W2.out]
  simp only [Act.put, List.setIfInBounds_toArray, List.set_cons_succ, List.set_cons_zero]
  refine lw_move rfl _ rfl _ rfl rfl ?_
  simp only [Act.put, List.setIfInBounds_toArray, List.set_cons_succ, List.set_cons_zero]
  refine lw_val rfl _ rfl (fun W hb' => ?_) ?_
  · have k0 := KK0.out W (TB.trans (hb'.mono hz1))
    have k1 := KK1.out W (TB.trans (hb'.mono hz1))
    have k2 := KK2.out W (TB.trans (hb'.mono hz1))
    have hlt : b0 < W.heap.size := by have := hb'.size; omega
    have l1 : ¬ b = [] := HNE.out
    have l2 : ¬ (51 : Int) ≤ 1 := by omega
    have l3 : ¬ (51 : Int) ≤ 2 := by omega
    simp [execOp, go_sem, k0, k1, k2, hlt, l1, l2, l3, W1.out, W2.out]
  simp only [Act.put, List.setIfInBounds_toArray, List.set_cons_succ, List.set_cons_zero]
  refine lw_val rfl _ rfl (fun W hb' => ?_) ?_
  · have k0 := KK0.out W (TB.trans (hb'.mono hz1))
    have k1 := KK1.out W (TB.trans (hb'.mono hz1))
    have k2 := KK2.out W (TB.trans (hb'.mono hz1))
    have hlt : b0 < W.heap.size := by have := hb'.size; omega
    have l1 : ¬ b = [] := HNE.out
    have l2 : ¬ (51 : Int) ≤ 1 := by omega
    have l3 : ¬ (51 : Int) ≤ 2 := by omega
    simp [execOp, go_sem, k0, k1, k2, hlt, l1, l2, l3, W1.out, W2.out]
  simp only [Act.put, List.setIfInBounds_toArray, List.set_cons_succ, List.set_cons_zero]
  refine lw_val rfl _ rfl (fun W hb' => ?_) ?_
  · have k0 := KK0.out W (TB.trans (hb'.mono hz1))
    have k1 := KK1.out W (TB.trans (hb'.mono hz1))
    have k2 := KK2.out W (TB.trans (hb'.mono hz1))
    have hlt : b0 < W.heap.size := by have := hb'.size; omega
    have l1 : ¬ b = [] := HNE.out
    have l2 : ¬ (51 : Int) ≤ 1 := by omega
    have l3 : ¬ (51 : Int) ≤ 2 := by omega
    simp [execOp, go_sem, k0, k1, k2, hlt, l1, l2, l3, W1.out, W2.out]
  simp only [Act.put, List.setIfInBounds_toArray, List.set_cons_succ, List.set_cons_zero]
  refine lw_move rfl _ rfl _ rfl rfl ?_
  simp only [Act.put, List.setIfInBounds_toArray, List.set_cons_succ, List.set_cons_zero]
  refine lw_val rfl _ rfl (fun W hb' => ?_) ?_
  · have k0 := KK0.out W (TB.trans (hb'.mono hz1))
    have k1 := KK1.out W (TB.trans (hb'.mono hz1))
    have k2 := KK2.out W (TB.trans (hb'.mono hz1))
    have hlt : b0 < W.heap.size := by have := hb'.size; omega
    have l1 : ¬ b = [] := HNE.out
    have l2 : ¬ (51 : Int) ≤ 1 := by omega
    have l3 : ¬ (51 : Int) ≤ 2 := by omega
    simp [execOp, go_sem, k0, k1, k2, hlt, l1, l2, l3, W1.out, W2.out]
  simp only [Act.put, List.setIfInBounds_toArray, List.set_cons_succ, List.set_cons_zero]
  refine lw_val rfl _ rfl (fun W hb' => ?_) ?_
  · have k0 := KK0.out W (TB.trans (hb'.mono hz1))
    have k1 := KK1.out W (TB.trans (hb'.mono hz1))
    have k2 := KK2.out W (TB.trans (hb'.mono hz1))
    have hlt : b0 < W.heap.size := by have := hb'.size; omega
    have l1 : ¬ b = [] := HNE.out
    have l2 : ¬ (51 : Int) ≤ 1 := by omega
    have l3 : ¬ (51 : Int) ≤ 2 := by omega
    simp [execOp, go_sem, k0, k1, k2, hlt, l1, l2, l3, W1.out, W2.out]
  simp only [Act.put, List.setIfInBounds_toArray, List.set_cons_succ, List.set_cons_zero]
  refine lw_val rfl _ rfl (fun W hb' => ?_) ?_
  · have k0 := KK0.out W (TB.trans (hb'.mono hz1))
    have k1 := KK1.out W (TB.trans (hb'.mono hz1))
    have k2 := KK2.out W (TB.trans (hb'.mono hz1))
    have hlt : b0 < W.heap.size := by have := hb'.size; omega
    have l1 : ¬ b = [] := HNE.out
    have l2 : ¬ (51 : Int) ≤ 1 := by omega
    have l3 : ¬ (51 : Int) ≤ 2 := by omega
    simp [execOp, go_sem, k0, k1, k2, hlt, l1, l2, l3, W1.out, W2.out]
  simp only [Act.put, List.setIfInBounds_toArray, List.set_cons_succ, List.set_cons_zero]
  refine lw_val rfl _ rfl (fun W hb' => ?_) ?_
  · simp only [execOp_bM3]
    exact run_bM3 x0 x1 x2 W
  simp only [Act.put, List.setIfInBounds_toArray, List.set_cons_succ, List.set_cons_zero]
  intro w2 hb2 hFz
  have T2 := T.call hb2
  clear hFz hb2 T TB
  obtain ⟨q0, f0, -⟩ := T2.rules
  have l0 := T2.lt
  go_upto_region 4 with fail
  replace T2 := T2.setMc (by omega) trivial ⟨x0, x1, x2, Vec.zero, .slice none 0 0, 0, 0⟩
  dsimp only at T2
  simp only [vz0, vz1, vz2, vz3, vz4, vz5] at T2
  generalize (World.setCell _ _ _) = w3 at T2 ⊢
  clear q0 f0 l0 hz1 hlt1 KK0 KK1 KK2 W1 W2
  go_wp2_with fail
  refine (CV.out _ T2.below).mono ?_
  rintro r w4 ⟨rfl, hb4⟩
  have T4 := T2.call hb4
  clear T2 hb4 CV
  obtain ⟨q0, f0, -⟩ := T4.rules
  have l0 := T4.lt
  go_upto_region 5 with fail
  replace T4 := (((((T4.set_ (by omega) trivial 3 (.int .u64 D.v0)).set_ (by omega) trivial 4 (.int .u64 D.v1)).set_ (by omega) trivial 5 (.int .u64 D.v2)).set_ (by omega) trivial 6 (.int .u64 D.v3)).set_ (by omega) trivial 7 (.int .u64 D.v4)).set_ (by omega) trivial 8 (.int .u64 D.v5)
  rw [mcA_set3, mcA_set4, mcA_set5, mcA_set6, mcA_set7, mcA_set8] at T4
  dsimp only at T4
  rw [vec_eta] at T4
  generalize (World.setCell _ _ _) = w5 at T4 ⊢
  clear q0 f0 l0
  obtain ⟨q0, f0, -⟩ := T4.rules
  have l0 := T4.lt
  go_upto_region 13 with fail
  have T6 := T4
  clear T4 q0 f0 l0
  generalize w5 = w7 at T6 ⊢
  have hown : w7.ownsRow (w.heap.size + 1) 41 14 (.slice none 0 0) ([] : List Ev).length (ecells []) := World.ownsRow_nil _ _ _ _
  have hrows : ERows w7 w7.heap.size none [] := Rd.of_own hown
  obtain ⟨q0, f0, -⟩ := T6.rules
  have l0 := T6.lt
  go_wp2_with fail
  refine (CP.out none 0 w7 hrows (Nat.le_refl _) (by decide)).mono ?_
  rintro r w8 ⟨u8, rfl, own8, hb8⟩
  obtain ⟨A5, c5, hu, hc5, hm5, hR5⟩ := own_open own8
  have T8 := T6.call hb8
  have hown8 := ownsRow_below hown hb8
  have hbs8 : BytesIs P u8 w8 := BytesIs.of_own own8
  obtain ⟨nP, hnP⟩ : ∃ n, n = P.length := ⟨_, rfl⟩
  rw [← hnP] at hu
  subst hu
  clear T6 hb8 hown own8 hR5 q0 f0 l0 hrows CP
  obtain ⟨q0, f0, -⟩ := T8.rules
  have l0 := T8.lt
  by_cases hz : nP = 0
  · have hP0 : P = [] := List.eq_nil_of_length_eq_zero (by omega)
    have HR := Lib.hid (show getM b = (Ms.zero, 5) from by rw [HG.out, if_neg (by rintro rfl; rw [hP0] at h51; simp at h51)])
    have e0 : ((nP : Int) == 0) = true := by rw [hz]; rfl
    clear HG hP0 hnP hbs8
    subst hz
    go_wp2_with fail
    replace T8 := T8.setMc (by omega) trivial Mc.zero
    simp only [mczero_k, mczero_f, mczero_t, mczero_d, mczero_s, mczero_n, mczero_a, vz0, vz1, vz2, vz3, vz4, vz5] at T8
    refine bodyPost_ret (v := .tuple #[.agg (mcA Mc.zero), .int .i64 5]) (results_get (s1 := 2) (s2 := 3) (by kernel_rfl) _ w.heap.size Mc.zero 5 _ rfl rfl (T8.blk _ _ _ List.mem_cons_self)) rfl ?_
    rw [HR.out]
    exact ⟨.slice none 0 0, rfl, World.ownsRow_nil _ _ _ _, T8.below⟩
  · have e0 : ((nP : Int) == 0) = false := by rw [beq_eq_false_iff_ne]; omega
    obtain ⟨v, hv⟩ : ∃ v, decide (P = b) = v := ⟨_, rfl⟩
    have hbq := HB.out w8 T8.below
    rw [hnP] at hbs8
    have ce := bequal A5 (some ⟨b0, o, none⟩) c5 51 P b w8 hbs8 hbq HPR.out HBY.out v hv
    rw [← hnP, HNB.out] at ce
    have CE := Lib.hid ce
    clear ce hbs8 hbq hnP
    rcases (show v = false ∨ v = true from by cases v <;> simp) with rfl | rfl
    · have HR := Lib.hid (show getM b = (Ms.zero, 5) from by rw [HG.out, if_neg (of_decide_eq_false hv)])
      clear HG hv
      go_wp2_with fail
      refine CE.out.mono ?_
      rintro r w9 ⟨rfl, hb9⟩
      have T9 := T8.call hb9
      clear T8 hb9 q0 f0 l0
      obtain ⟨q0, f0, -⟩ := T9.rules
      have l0 := T9.lt
      go_wp2_with fail
      replace T9 := T9.setMc (by omega) trivial Mc.zero
      simp only [mczero_k, mczero_f, mczero_t, mczero_d, mczero_s, mczero_n, mczero_a, vz0, vz1, vz2, vz3, vz4, vz5] at T9
      refine bodyPost_ret (v := .tuple #[.agg (mcA Mc.zero), .int .i64 5]) (results_get (s1 := 2) (s2 := 3) (by kernel_rfl) _ w.heap.size Mc.zero 5 _ rfl rfl (T9.blk _ _ _ List.mem_cons_self)) rfl ?_
      rw [HR.out]
      exact ⟨.slice none 0 0, rfl, World.ownsRow_nil _ _ _ _, T9.below⟩
    · have HR := Lib.hid (show getM b = (⟨x0, x1, x2, D, [], 0, 0⟩, 0) from by rw [HG.out, if_pos (of_decide_eq_true hv)])
      clear HG hv
      go_wp2_with fail
      refine CE.out.mono ?_
      rintro r w9 ⟨rfl, hb9⟩
      have T9 := T8.call hb9
      have hown9 := ownsRow_below hown8 hb9
      clear T8 hb9 q0 f0 l0 hown8
      obtain ⟨q0, f0, -⟩ := T9.rules
      have l0 := T9.lt
      go_wp2_with fail
      replace T9 := T9.setMc (by omega) trivial ⟨x0, x1, x2, D, .slice none 0 0, 0, 0⟩
      refine bodyPost_ret (v := .tuple #[.agg (mcA ⟨x0, x1, x2, D, .slice none 0 0, 0, 0⟩), .int .i64 0]) (results_get (s1 := 2) (s2 := 3) (by kernel_rfl) _ w.heap.size ⟨x0, x1, x2, D, .slice none 0 0, 0, 0⟩ 0 _ rfl rfl (T9.blk _ _ _ List.mem_cons_self)) rfl ?_
      rw [HR.out]
      refine ⟨.slice none 0 0, rfl, ?_, T9.below⟩
      refine own_mono ?_ (Nat.le_succ _)
      repeat refine own_far ?_ (Nat.lt_succ_self _) _
      exact hown9
end Go.Proofs.Ytolfnilickfneaa
