/-
  The walk of the document's leatref08.Take: inside.
-/
import Derived.Test.YtolfnilickfneaaRk
import Derived.Test.YtolfnilickfneaaGF
namespace Go.Proofs.Ytolfnilickfneaa
set_option linter.unusedVariables false
set_option linter.unusedSimpArgs false
open Go.RowKit

theorem readE_eq (L : List Int) (x0 x3 x5 : Int) (h0 : L[0]? = some x0) (h3 : L[57]? = some x3) (h5 : L[66]? = some x5) :
    readE L = ⟨x0, numL ((L.drop 1).take 8), ofL ((L.drop 9).take 48), x3, numL ((L.drop 58).take 8), x5, wrap64 (numL ((L.drop 67).take 8)), numL ((L.drop 75).take 8), numL ((L.drop 83).take 8)⟩ := by
  unfold readE ofE
  rw [← IntWalk.i64_left]
  simp only [List.getD_eq_getElem?_getD, h0, h3, h5, Option.getD_some]
/-- A new event, all zero, that stands behind block B. -/
def NewEv (B : Nat) (u : Value) (w : World) : Prop := ∃ g, u = .pointer (some ⟨g, 0, none⟩) ∧ B ≤ g ∧ Blk w g 41 (evA Ev.zero)
theorem NewEv.keep (B : Nat) (u : Value) (w w' : World) (h : NewEv B u w) (hb : Below w.heap.size w w') : NewEv B u w' := by
  obtain ⟨g, e, hg, hB⟩ := h
  exact ⟨g, e, hg, hB.below hb hB.lt⟩
theorem Trk.cons {w0 w : World} {g : Nat} {t : TypeId} {cs : Array Value} {bs : List (Nat × TypeId × Array Value)} (T : Trk w0 w bs) (h : Blk w g t cs) : Trk w0 w ((g, t, cs) :: bs) :=
  ⟨T.below, fun g' t' cs' hm => by
    rcases List.mem_cons.1 hm with e | hm
    · cases e; exact h
    · exact T.blk _ _ _ hm⟩
theorem vz0 : Vec.zero.v0 = 0 := rfl
theorem vz1 : Vec.zero.v1 = 0 := rfl
theorem vz2 : Vec.zero.v2 = 0 := rfl
theorem vz3 : Vec.zero.v3 = 0 := rfl
theorem vz4 : Vec.zero.v4 = 0 := rfl
theorem vz5 : Vec.zero.v5 = 0 := rfl
theorem evA_getD (e : Ev) (i : Nat) (hi : i < 6) : (evA e)[2 + i]? = some (.int .u64 (e.d.get i)) := by
  match i, hi with
  | 0, _ => rfl
  | 1, _ => rfl
  | 2, _ => rfl
  | 3, _ => rfl
  | 4, _ => rfl
  | 5, _ => rfl
theorem deps_get (L : List Int) (i : Nat) (hi : i < 6) (hL : L.length = 91) : (ofL ((L.drop 9).take 48)).get i = numL ((L.drop (9 + 8 * i)).take 8) := by
  rw [ofL, Vec.get_ofFn _ i hi, List.drop_take, List.take_take, List.drop_drop, Nat.min_eq_left (by omega)]
set_option maxHeartbeats 4000000 in
set_option maxRecDepth 100000 in
theorem rtake_in (b o cap : Nat) (l : List Int) (m : Nat) (w : World) (hc : ∀ i x, l[i]? = some x → w.cell? ⟨b, o + i, none⟩ = some (.int .u8 x)) (hb : b < w.heap.size) (hn : l.length ≤ cap) (hm : cap ≤ maxLen) (hby : ∀ c ∈ l, 0 ≤ c ∧ c ≤ 255) (h : m + 91 ≤ l.length) :
    Calls Try.prog 29 #[.slice (some ⟨b, o, none⟩) l.length cap, .int .i64 m] w (GivesT (takeE l m) w) := by
  have hm1 : cap ≤ 9223372036854775807 := hm
  obtain ⟨L, hL⟩ : ∃ L, L = (l.drop m).take 91 := ⟨_, rfl⟩
  have hLl : L.length = 91 := by rw [hL, List.length_take, List.length_drop]; omega
  have hLr : ∀ c ∈ L, 0 ≤ c ∧ c ≤ 255 := fun c hcm => hby c (by rw [hL] at hcm; exact List.mem_of_mem_drop (List.mem_of_mem_take hcm))
  have hLc : ∀ W, Below w.heap.size w W → ∀ i x, L[i]? = some x → W.cell? ⟨b, o + m + i, none⟩ = some (.int .u8 x) := fun W hW i x hx => by
    have hi : i < 91 := by rw [← hLl]; exact (List.getElem?_eq_some_iff.1 hx).1
    rw [hL, List.getElem?_take, if_pos hi, List.getElem?_drop] at hx
    rw [Nat.add_assoc]
    exact (hW.cell (p := ⟨b, _, none⟩) hb).trans (hc _ x hx)
  obtain ⟨x0, hx0⟩ : ∃ x, L[0]? = some x := ⟨L[0]'(by omega), List.getElem?_eq_getElem (by omega)⟩
  obtain ⟨x3, hx3⟩ : ∃ x, L[57]? = some x := ⟨L[57]'(by omega), List.getElem?_eq_getElem (by omega)⟩
  obtain ⟨x5, hx5⟩ : ∃ x, L[66]? = some x := ⟨L[66]'(by omega), List.getElem?_eq_getElem (by omega)⟩
  have K0 := Lib.hid fun W (hW : Below w.heap.size w W) => show W.cell? ⟨b, o + m, none⟩ = some (.int .u8 x0) from hLc W hW 0 x0 hx0
  have W0 := Lib.hid (show IntKind.i64.wrap x0 = x0 from IntWalk.i64_in _ (by have := hLr x0 (List.mem_of_getElem? hx0); omega))
  have W5 := Lib.hid (show IntKind.i64.wrap x5 = x5 from IntWalk.i64_in _ (by have := hLr x5 (List.mem_of_getElem? hx5); omega))
  have K3 := Lib.hid fun W (hW : Below w.heap.size w W) => hLc W hW 57 x3 hx3
  have K5 := Lib.hid fun W (hW : Below w.heap.size w W) => hLc W hW 66 x5 hx5
  have hnum : ∀ (k : Nat), k + 8 ≤ 91 → ∀ W, Below w.heap.size w W → Calls Try.prog 60 #[.slice (some ⟨b, o + m, none⟩) 91 (cap - m), .int .i64 k] W fun e w' => e = .returned (.int .u64 (numL ((L.drop k).take 8))) ∧ Below W.heap.size W w' := fun k hk W hW => by
    have c := rnumber b (o + m) (cap - m) L k W (hLc W hW) (by omega) (by omega) hLr (by omega)
    rw [hLl] at c
    exact c.mono fun e w' ⟨h1, h2⟩ => ⟨h1, h2 ▸ Below.refl _ _⟩
  have HN := Lib.hid hnum
  have C1 := Lib.hid (hnum 1 (by omega))
  have C4 := Lib.hid (hnum 58 (by omega))
  have C6 := Lib.hid (hnum 67 (by omega))
  have C7 := Lib.hid (hnum 75 (by omega))
  have C8 := Lib.hid (hnum 83 (by omega))
  have hread : readAt l m = readE L := by rw [hL]; exact readAt_eq l m h hby
  have hok := readAt_ok l m h hby
  obtain ⟨y, hy⟩ : ∃ y, emayB (readAt l m) = y := ⟨_, rfl⟩
  have HR := Lib.hid (show takeE l m = if y = true then (readAt l m, (m : Int) + 91, 0) else (Ev.zero, 0, 5) from by
    cases y
    · rw [takeE_no h hy]; rfl
    · rw [takeE_yes h hy]; rfl)
  have hS : ((strOfNums (putE (readAt l m))).toList == (strOfNums L).toList) = y := by
    rw [str_toList (putE_range _) hLr]
    cases y with
    | true => rw [putE_yes hy, evL_readAt h hby hy, ← hL]; simp
    | false =>
      rw [putE_no hy, decide_eq_false_iff_not]
      intro e
      rw [← e] at hLl
      cases hLl
  have CP := Lib.hid (rput8 (readAt l m) hok)
  have hE := readE_eq L x0 x3 x5 hx0 hx3 hx5
  have HD := Lib.hid fun i hi => deps_get L i hi hLl
  rw [hread, hE] at hS CP HR
  have HS := Lib.hid hS
  have hHL := Lib.hid hLl
  have HLR := Lib.hid hLr
  have HLC := Lib.hid hLc
  clear hS hE hread hok hy hnum hx0 hx3 hx5 hc hby hL hLl hLr hLc
  generalize hn1 : numL ((L.drop 1).take 8) = n1 at C1 CP HR HS
  generalize hn4 : numL ((L.drop 58).take 8) = n4 at C4 CP HR HS
  generalize hn6 : numL ((L.drop 67).take 8) = n6 at C6 CP HR HS
  generalize hn7 : numL ((L.drop 75).take 8) = n7 at C7 CP HR HS
  generalize hn8 : numL ((L.drop 83).take 8) = n8 at C8 CP HR HS
  generalize hDd : ofL ((L.drop 9).take 48) = D at CP HR HS HD
  generalize hPp : putE ⟨x0, n1, D, x3, n4, x5, wrap64 n6, n7, n8⟩ = P at CP HS
  clear hn1 hn4 hn6 hn7 hn8 hDd hPp
  have B1 : m + 91 ≤ cap := by omega
  have B2 : ¬ cap = m := by omega
  have D1 : decide (l.length < m) = false := by rw [decide_eq_false_iff_not]; omega
  have D2 : decide ((m : Int) < 0) = false := by rw [decide_eq_false_iff_not]; omega
  have D3 : decide ((l.length : Int) - (m : Int) < 91) = false := by rw [decide_eq_false_iff_not]; omega
  go_enter Try.func29, Try.ntmps29
  go_upto_region 6 with fail
  have T : Trk w _ [(w.heap.size, 41, evA Ev.zero)] := (Trk.nil w).push (t := 41) (cs := evA Ev.zero) rfl
  generalize w.alloc _ = w1 at T ⊢
  rw [show m + 91 - m = 91 from by omega]
  have TB := T.below
  have hz1 := TB.size
  have hlt1 := T.lt
  refine wp_region_post 24 [.is (.slice (some ⟨b, o + m, none⟩) 91 (cap - m)), .is (.pointer (some ⟨b, o + m, none⟩)), .is (.int .u8 x0), .is (.int .i64 x0), .is (.slice (some ⟨b, o + m, none⟩) 91 (cap - m)), .is (.int .u64 n1),
    .is (.slice (some ⟨b, o + m, none⟩) 91 (cap - m)), .is (.pointer (some ⟨b, o + m + 57, none⟩)), .is (.int .u8 x3), .is (.slice (some ⟨b, o + m, none⟩) 91 (cap - m)), .is (.int .u64 n4),
    .is (.slice (some ⟨b, o + m, none⟩) 91 (cap - m)), .is (.pointer (some ⟨b, o + m + 66, none⟩)), .is (.int .u8 x5), .is (.int .i64 x5), .is (.slice (some ⟨b, o + m, none⟩) 91 (cap - m)), .is (.int .u64 n6), .is (.int .i64 (wrap64 n6)),
    .is (.slice (some ⟨b, o + m, none⟩) 91 (cap - m)), .is (.int .u64 n7), .is (.slice (some ⟨b, o + m, none⟩) 91 (cap - m)), .is (.int .u64 n8), .is (.agg (evA ⟨x0, n1, Vec.zero, x3, n4, x5, wrap64 n6, n7, n8⟩)), .rel (NewEv w1.heap.size) (NewEv.keep w1.heap.size)] (by kernel_rfl) (by simp) (by kernel_rfl) (by kernel_rfl) (by kernel_rfl) (by kernel_rfl) ?_
  simp only [List.take_succ_cons, List.take_zero, List.drop_succ_cons, List.drop_zero]
  refine lw_move rfl _ rfl _ rfl rfl ?_
  simp only [Act.put, List.setIfInBounds_toArray, List.set_cons_succ, List.set_cons_zero]
  refine lw_val rfl _ rfl (fun W hb' => ?_) ?_
  · have k0 := K0.out W (TB.trans (hb'.mono hz1))
    have k3 := K3.out W (TB.trans (hb'.mono hz1))
    have k5 := K5.out W (TB.trans (hb'.mono hz1))
    have hlt : b < W.heap.size := by have := hb'.size; omega
    simp [execOp, go_sem, k0, k3, k5, hlt, W0.out, W5.out]
  simp only [Act.put, List.setIfInBounds_toArray, List.set_cons_succ, List.set_cons_zero]
  refine lw_val rfl _ rfl (fun W hb' => ?_) ?_
  · have k0 := K0.out W (TB.trans (hb'.mono hz1))
    have k3 := K3.out W (TB.trans (hb'.mono hz1))
    have k5 := K5.out W (TB.trans (hb'.mono hz1))
    have hlt : b < W.heap.size := by have := hb'.size; omega
    simp [execOp, go_sem, k0, k3, k5, hlt, W0.out, W5.out]
  simp only [Act.put, List.setIfInBounds_toArray, List.set_cons_succ, List.set_cons_zero]
  refine lw_val rfl _ rfl (fun W hb' => ?_) ?_
  · have k0 := K0.out W (TB.trans (hb'.mono hz1))
    have k3 := K3.out W (TB.trans (hb'.mono hz1))
    have k5 := K5.out W (TB.trans (hb'.mono hz1))
    have hlt : b < W.heap.size := by have := hb'.size; omega
    simp [execOp, go_sem, k0, k3, k5, hlt, W0.out, W5.out]
  simp only [Act.put, List.setIfInBounds_toArray, List.set_cons_succ, List.set_cons_zero]
  refine lw_move rfl _ rfl _ rfl rfl ?_
  simp only [Act.put, List.setIfInBounds_toArray, List.set_cons_succ, List.set_cons_zero]
  refine lw_call rfl 60 #[.slice (some ⟨b, o + m, none⟩) 91 (cap - m), .int .i64 1] _ rfl ?_ (fun W hb' => C1.out W (TB.trans (hb'.mono hz1))) ?_
  · intro W; simp [go_sem] <;> rfl
  simp only [Act.put, List.setIfInBounds_toArray, List.set_cons_succ, List.set_cons_zero]
  refine lw_move rfl _ rfl _ rfl rfl ?_
  simp only [Act.put, List.setIfInBounds_toArray, List.set_cons_succ, List.set_cons_zero]
  refine lw_val rfl _ rfl (fun W hb' => ?_) ?_
  · have k0 := K0.out W (TB.trans (hb'.mono hz1))
    have k3 := K3.out W (TB.trans (hb'.mono hz1))
    have k5 := K5.out W (TB.trans (hb'.mono hz1))
    have hlt : b < W.heap.size := by have := hb'.size; omega
    simp [execOp, go_sem, k0, k3, k5, hlt, W0.out, W5.out]
  simp only [Act.put, List.setIfInBounds_toArray, List.set_cons_succ, List.set_cons_zero]
  refine lw_val rfl _ rfl (fun W hb' => ?_) ?_
  · have k0 := K0.out W (TB.trans (hb'.mono hz1))
    have k3 := K3.out W (TB.trans (hb'.mono hz1))
    have k5 := K5.out W (TB.trans (hb'.mono hz1))
    have hlt : b < W.heap.size := by have := hb'.size; omega
    simp [execOp, go_sem, k0, k3, k5, hlt, W0.out, W5.out]
  simp only [Act.put, List.setIfInBounds_toArray, List.set_cons_succ, List.set_cons_zero]
  refine lw_move rfl _ rfl _ rfl rfl ?_
  simp only [Act.put, List.setIfInBounds_toArray, List.set_cons_succ, List.set_cons_zero]
  refine lw_call rfl 60 #[.slice (some ⟨b, o + m, none⟩) 91 (cap - m), .int .i64 58] _ rfl ?_ (fun W hb' => C4.out W (TB.trans (hb'.mono hz1))) ?_
  · intro W; simp [go_sem] <;> rfl
  simp only [Act.put, List.setIfInBounds_toArray, List.set_cons_succ, List.set_cons_zero]
  refine lw_move rfl _ rfl _ rfl rfl ?_
  simp only [Act.put, List.setIfInBounds_toArray, List.set_cons_succ, List.set_cons_zero]
  refine lw_val rfl _ rfl (fun W hb' => ?_) ?_
  · have k0 := K0.out W (TB.trans (hb'.mono hz1))
    have k3 := K3.out W (TB.trans (hb'.mono hz1))
    have k5 := K5.out W (TB.trans (hb'.mono hz1))
    have hlt : b < W.heap.size := by have := hb'.size; omega
    simp [execOp, go_sem, k0, k3, k5, hlt, W0.out, W5.out]
  simp only [Act.put, List.setIfInBounds_toArray, List.set_cons_succ, List.set_cons_zero]
  refine lw_val rfl _ rfl (fun W hb' => ?_) ?_
  · have k0 := K0.out W (TB.trans (hb'.mono hz1))
    have k3 := K3.out W (TB.trans (hb'.mono hz1))
    have k5 := K5.out W (TB.trans (hb'.mono hz1))
    have hlt : b < W.heap.size := by have := hb'.size; omega
    simp [execOp, go_sem, k0, k3, k5, hlt, W0.out, W5.out]
  simp only [Act.put, List.setIfInBounds_toArray, List.set_cons_succ, List.set_cons_zero]
  refine lw_val rfl _ rfl (fun W hb' => ?_) ?_
  · have k0 := K0.out W (TB.trans (hb'.mono hz1))
    have k3 := K3.out W (TB.trans (hb'.mono hz1))
    have k5 := K5.out W (TB.trans (hb'.mono hz1))
    have hlt : b < W.heap.size := by have := hb'.size; omega
    simp [execOp, go_sem, k0, k3, k5, hlt, W0.out, W5.out]
  simp only [Act.put, List.setIfInBounds_toArray, List.set_cons_succ, List.set_cons_zero]
  refine lw_move rfl _ rfl _ rfl rfl ?_
  simp only [Act.put, List.setIfInBounds_toArray, List.set_cons_succ, List.set_cons_zero]
  refine lw_call rfl 60 #[.slice (some ⟨b, o + m, none⟩) 91 (cap - m), .int .i64 67] _ rfl ?_ (fun W hb' => C6.out W (TB.trans (hb'.mono hz1))) ?_
  · intro W; simp [go_sem] <;> rfl
  simp only [Act.put, List.setIfInBounds_toArray, List.set_cons_succ, List.set_cons_zero]
  refine lw_val rfl _ rfl (fun W hb' => ?_) ?_
  · simp [execOp, go_sem, IntWalk.i64_left]
  simp only [Act.put, List.setIfInBounds_toArray, List.set_cons_succ, List.set_cons_zero]
  refine lw_move rfl _ rfl _ rfl rfl ?_
  simp only [Act.put, List.setIfInBounds_toArray, List.set_cons_succ, List.set_cons_zero]
  refine lw_call rfl 60 #[.slice (some ⟨b, o + m, none⟩) 91 (cap - m), .int .i64 75] _ rfl ?_ (fun W hb' => C7.out W (TB.trans (hb'.mono hz1))) ?_
  · intro W; simp [go_sem] <;> rfl
  simp only [Act.put, List.setIfInBounds_toArray, List.set_cons_succ, List.set_cons_zero]
  refine lw_move rfl _ rfl _ rfl rfl ?_
  simp only [Act.put, List.setIfInBounds_toArray, List.set_cons_succ, List.set_cons_zero]
  refine lw_call rfl 60 #[.slice (some ⟨b, o + m, none⟩) 91 (cap - m), .int .i64 83] _ rfl ?_ (fun W hb' => C8.out W (TB.trans (hb'.mono hz1))) ?_
  · intro W; simp [go_sem] <;> rfl
  simp only [Act.put, List.setIfInBounds_toArray, List.set_cons_succ, List.set_cons_zero]
  refine lw_val rfl _ rfl (fun W hb' => ?_) ?_
  · simp only [execOp_bEt]
    exact run_bEt x0 n1 x3 n4 x5 (wrap64 n6) n7 n8 W
  simp only [Act.put, List.setIfInBounds_toArray, List.set_cons_succ, List.set_cons_zero]
  refine lw_new rfl _ _ rfl (fun W hb' => ?_) ?_
  · refine ⟨.pointer (some ⟨W.heap.size, 0, none⟩), W.alloc (.cells (evA Ev.zero) 41), ?_, (Below.refl _ _).alloc (Nat.le_refl _) _, ⟨W.heap.size, rfl, hb'.size, Blk.new _ _ _⟩⟩
    simp [execOp, go_sem]
  intro z
  simp only [Act.put, List.setIfInBounds_toArray, List.set_cons_succ, List.set_cons_zero]
  intro w5 hb5 hF
  obtain ⟨g, rfl, hg, hBg⟩ : NewEv w1.heap.size z w5 := hF 23 z (Or.inl ⟨rfl, rfl⟩)
  have T5 := (T.call hb5).cons hBg
  clear T hb5 hF hBg TB
  obtain ⟨qg, fg, q0, f0, -⟩ := T5.rules
  obtain ⟨lg, l0, -⟩ := T5.lts
  go_upto_region 7 with fail
  replace T5 := T5.setEv (by omega) ⟨by omega, trivial⟩ ⟨x0, n1, Vec.zero, x3, n4, x5, wrap64 n6, n7, n8⟩
  dsimp only at T5
  simp only [vz0, vz1, vz2, vz3, vz4, vz5] at T5
  generalize (World.setCell _ _ _) = w6 at T5 ⊢
  clear qg fg q0 f0 lg l0 hz1 K0 K3 K5 C1 C4 C6 C7 C8 W0 W5
  go_wp2_with fail
  go_loopw [9] (fun i wr => ∃ (k : Nat) (u : Vec), k ≤ 6 ∧ i = .int .i64 k ∧ (∀ j, j < k → u.get j = D.get j) ∧ Trk w wr [(g, 41, evA ⟨x0, n1, u, x3, n4, x5, wrap64 n6, n7, n8⟩), (w.heap.size, 41, evA Ev.zero)]) (fun i _ => 6 - (intOf i).toNat)
  case atStart => exact ⟨0, Vec.zero, by omega, rfl, fun j hj => absurd hj (by omega), T5⟩
  case round =>
    clear T5
    obtain ⟨k, u, hk, rfl, hu, T⟩ := hrel
    by_cases hlt : k < 6
    · have c := HN.out (9 + 8 * k) (by omega) wr T.below
      rw [← HD.out k hlt, show ((9 + 8 * k : Nat) : Int) = 9 + 8 * (k : Int) from by omega] at c
      obtain ⟨x, hx⟩ : ∃ x, x = D.get k := ⟨_, rfl⟩
      rw [← hx] at c
      have C := Lib.hid c
      have HX := Lib.hid hx
      have HU := Lib.hid hu
      clear c hx hu
      have i1 : (0 : Int) ≤ (k : Int) := by omega
      have i2 : (k : Int) < 6 := by omega
      have hg2 := evA_getD ⟨x0, n1, u, x3, n4, x5, wrap64 n6, n7, n8⟩ k hlt
      obtain ⟨qg, fg, q0, f0, -⟩ := T.rules
      obtain ⟨lg, l0, -⟩ := T.lts
      go_wp2_with fail
      refine C.out.mono ?_
      rintro r w2 ⟨rfl, hb2⟩
      have T2 := T.call hb2
      clear T hb2 qg fg q0 f0 lg l0
      obtain ⟨qg, fg, q0, f0, -⟩ := T2.rules
      obtain ⟨lg, l0, -⟩ := T2.lts
      go_wp2_with fail
      go_roundw
      case rel =>
        refine ⟨k + 1, u.set k x, by omega, by go_num, fun j hj => ?_, ?_⟩
        · rw [Vec.get_set _ _ j _ (by omega) (by omega)]
          split
          · rename_i e
            subst e
            exact HX.out
          · exact HU.out j (by omega)
        · have := T2.set_ (by omega) ⟨by omega, trivial⟩ (2 + k) (.int .u64 x)
          rw [evA_setD _ k hlt] at this
          exact this
      case measure => simp [intOf]; omega
    · obtain rfl : k = 6 := by omega
      obtain rfl : u = D := Vec.ext_get fun j hj => hu j (by omega)
      clear hu hlt HN HD hk
      have hBI : BytesIs L (.slice (some ⟨b, o + m, none⟩) 91 (cap - m)) wr := ⟨some ⟨b, o + m, none⟩, cap - m, by rw [hHL.out], by have := hHL.out; omega, by omega, fun _ => ⟨b, o + m, rfl, by have := T.below.size; omega, fun i x hx => HLC.out wr T.below i x hx⟩⟩
      go_upto_region 11 with fail
      have hS := HS.out
      rcases (show y = false ∨ y = true from by cases y <;> simp) with rfl | rfl
      · refine lw_region [.is (.agg (evA ⟨x0, n1, u, x3, n4, x5, wrap64 n6, n7, n8⟩)), .bytes P, .is (.string (strOfNums P)), .is (.slice (some ⟨b, o + m, none⟩) 91 (cap - m)), .is (.string (strOfNums L)), .is (.bool true)] (by kernel_rfl) (by kernel_rfl) ?_
        refine lw_loade T rfl _ rfl _ _ rfl rfl (by simp) ?_
        simp only [Act.put, List.setIfInBounds_toArray, List.set_cons_succ, List.set_cons_zero]
        refine lw_call_rel rfl 36 #[.agg (evA ⟨x0, n1, u, x3, n4, x5, wrap64 n6, n7, n8⟩)] _ _ rfl ?_ (fun w _ => gives_rel (CP.out w)) ?_
        · intro w; simp [go_sem] <;> rfl
        intro z
        simp only [Act.put, List.setIfInBounds_toArray, List.set_cons_succ, List.set_cons_zero]
        refine lw_convR rfl _ rfl 1 _ rfl (by rfl) (by repeat (first | exact Or.inl ⟨rfl, rfl⟩ | apply Or.inr)) _ rfl rfl ?_
        simp only [Act.put, List.setIfInBounds_toArray, List.set_cons_succ, List.set_cons_zero]
        refine lw_move rfl _ rfl _ rfl rfl ?_
        simp only [Act.put, List.setIfInBounds_toArray, List.set_cons_succ, List.set_cons_zero]
        refine lw_conv rfl _ rfl _ rfl L hBI rfl ?_
        simp only [Act.put, List.setIfInBounds_toArray, List.set_cons_succ, List.set_cons_zero]
        refine lw_bin rfl _ _ _ _ _ rfl _ _ rfl rfl _ rfl ?_ ?_
        · intro ρ w h1 h2; simp [execOp, h1, h2, go_sem, bne, hS]
        simp only [Act.put, List.setIfInBounds_toArray, List.set_cons_succ, List.set_cons_zero]
        intro w6 hb6
        have T6 := (T.call hb6).perm (cs := [(w.heap.size, 41, evA Ev.zero), (g, 41, evA ⟨x0, n1, u, x3, n4, x5, wrap64 n6, n7, n8⟩)]) (by simp)
        clear T hb6 hBI CP HS hS HLR HLC hHL
        obtain ⟨q0, f0, qg, fg, -⟩ := T6.rules
        obtain ⟨l0, lg, -⟩ := T6.lts
        have hr := HR.out
        clear HR
        rw [if_neg (by decide)] at hr
        have HR2 := Lib.hid hr
        clear hr
        go_wp2_with fail
        replace T6 := T6.setEv (by omega) ⟨by omega, trivial⟩ Ev.zero
        refine bodyPost_ret (v := .tuple #[.agg (evA Ev.zero), .int .i64 0, .int .i64 5]) (results_take2 (s1 := 4) (s2 := 5) (s3 := 6) (by kernel_rfl) _ w.heap.size Ev.zero 0 5 _ rfl rfl rfl (T6.blk _ _ _ List.mem_cons_self)) rfl ⟨by rw [HR2.out], T6.below⟩
      · refine lw_region [.is (.agg (evA ⟨x0, n1, u, x3, n4, x5, wrap64 n6, n7, n8⟩)), .bytes P, .is (.string (strOfNums P)), .is (.slice (some ⟨b, o + m, none⟩) 91 (cap - m)), .is (.string (strOfNums L)), .is (.bool false)] (by kernel_rfl) (by kernel_rfl) ?_
        refine lw_loade T rfl _ rfl _ _ rfl rfl (by simp) ?_
        simp only [Act.put, List.setIfInBounds_toArray, List.set_cons_succ, List.set_cons_zero]
        refine lw_call_rel rfl 36 #[.agg (evA ⟨x0, n1, u, x3, n4, x5, wrap64 n6, n7, n8⟩)] _ _ rfl ?_ (fun w _ => gives_rel (CP.out w)) ?_
        · intro w; simp [go_sem] <;> rfl
        intro z
        simp only [Act.put, List.setIfInBounds_toArray, List.set_cons_succ, List.set_cons_zero]
        refine lw_convR rfl _ rfl 1 _ rfl (by rfl) (by repeat (first | exact Or.inl ⟨rfl, rfl⟩ | apply Or.inr)) _ rfl rfl ?_
        simp only [Act.put, List.setIfInBounds_toArray, List.set_cons_succ, List.set_cons_zero]
        refine lw_move rfl _ rfl _ rfl rfl ?_
        simp only [Act.put, List.setIfInBounds_toArray, List.set_cons_succ, List.set_cons_zero]
        refine lw_conv rfl _ rfl _ rfl L hBI rfl ?_
        simp only [Act.put, List.setIfInBounds_toArray, List.set_cons_succ, List.set_cons_zero]
        refine lw_bin rfl _ _ _ _ _ rfl _ _ rfl rfl _ rfl ?_ ?_
        · intro ρ w h1 h2; simp [execOp, h1, h2, go_sem, bne, hS]
        simp only [Act.put, List.setIfInBounds_toArray, List.set_cons_succ, List.set_cons_zero]
        intro w6 hb6
        have T6 := (T.call hb6).perm (cs := [(w.heap.size, 41, evA Ev.zero), (g, 41, evA ⟨x0, n1, u, x3, n4, x5, wrap64 n6, n7, n8⟩)]) (by simp)
        clear T hb6 hBI CP HS hS HLR HLC hHL
        obtain ⟨q0, f0, qg, fg, -⟩ := T6.rules
        obtain ⟨l0, lg, -⟩ := T6.lts
        have hr := HR.out
        clear HR
        rw [if_pos rfl] at hr
        have HR2 := Lib.hid hr
        clear hr
        go_wp2_with fail
        replace T6 := T6.setEv (by omega) ⟨by omega, trivial⟩ ⟨x0, n1, u, x3, n4, x5, wrap64 n6, n7, n8⟩
        refine bodyPost_ret (v := .tuple #[.agg (evA ⟨x0, n1, u, x3, n4, x5, wrap64 n6, n7, n8⟩), .int .i64 ((m : Int) + 91), .int .i64 0]) (results_take2 (s1 := 4) (s2 := 5) (s3 := 6) (by kernel_rfl) _ w.heap.size ⟨x0, n1, u, x3, n4, x5, wrap64 n6, n7, n8⟩ ((m : Int) + 91) 0 _ rfl rfl rfl (T6.blk _ _ _ List.mem_cons_self)) rfl ⟨by rw [HR2.out], T6.below⟩
theorem rtake (A : Option Addr) (cap : Nat) (l : List Int) (B : Nat) (at_ : Int) (w : World) (hL : BRows w B A l) (hB : B ≤ w.heap.size) (hn : l.length ≤ cap) (hm : cap ≤ maxLen) (hby : ∀ c ∈ l, 0 ≤ c ∧ c ≤ 255) (a0 : -9223372036854775808 ≤ at_) (a1 : at_ ≤ 9223372036854775807) :
    Calls Try.prog 29 #[.slice A l.length cap, .int .i64 at_] w (GivesT (takeE l at_) w) := by
  by_cases h : at_ < 0 ∨ (l.length : Int) < at_
  · rw [takeE_out h]
    exact rtake_out A l.length cap at_ w hn hm a0 a1 h
  · obtain ⟨m, rfl⟩ : ∃ m : Nat, at_ = m := ⟨at_.toNat, by omega⟩
    by_cases hs : l.length < m + 91
    · rw [takeE_short (by omega) (by omega) (by omega)]
      exact rtake_short A l.length cap m w hn hm (by omega) hs
    · obtain ⟨b, o, rfl, hlt, hc⟩ := hL (by rintro rfl; simp at hs)
      exact rtake_in b o cap l m w hc (by omega) hn hm hby (by omega)
end Go.Proofs.Ytolfnilickfneaa
