/-
  The walks of the document's package leatref06: May, Less, Lack.
-/
import Derived.Test.YtnhjphmcdamoaaaVecR
import Derived.Test.YtnhjphmcdamoaaaGD
import Derived.Test.YtnhjphmcdamoaaaGA
namespace Go.Proofs.Ytnhjphmcdamoaaa
set_option linter.unusedVariables false
set_option linter.unusedSimpArgs false
open Go.RowKit
set_option maxRecDepth 100000

theorem rmay (v : Vec) (x : Bool) (h : vmayB v = x) (w : World) :
    Calls Try.prog 16 #[.agg (vecA v)] w fun e w' => e = .returned (.bool x) ∧ Below w.heap.size w w' := by
  have hb := vlessB_iff (a := v) (b := Vec.ofFn fun _ => 1099511627776)
  rw [vmayB_eq, h] at hb
  have HB := Lib.hid hb
  clear h hb
  go_enter Try.func16, Try.ntmps16
  go_wp2_with fail
  go_loop [3] (fun i => ∃ k : Nat, k ≤ 6 ∧ i = .int .i64 k ∧ ∀ j, j < k → v.get j ≤ 1099511627776) (fun i => 6 - (intOf i).toNat)
  case atStart => exact ⟨0, by omega, rfl, by omega⟩
  case round =>
    obtain ⟨k, hk, rfl, hall⟩ := hrel
    by_cases hlt : k < 6
    · have hg := vecA_get v k hlt
      by_cases hle : v.get k ≤ 1099511627776
      · go_wp2
        go_round
        case rel => exact ⟨k + 1, by omega, by go_num, fun j hj => if e : j = k then e ▸ hle else hall j (by omega)⟩
        case measure => simp [intOf]; omega
      · go_wp2
        go_ret
        refine ⟨?_, ?_⟩
        · cases x with
          | false => rfl
          | true => have := HB.out.1 rfl k hlt; rw [Vec.get_ofFn _ k hlt] at this; omega
        · go_grown
    · obtain rfl : k = 6 := by omega
      go_wp2
      go_ret
      refine ⟨?_, ?_⟩
      · have : x = true := HB.out.2 fun j hj => by rw [Vec.get_ofFn _ j hj]; exact hall j hj
        rw [this]; rfl
      · go_grown

theorem rless (a b : Vec) (x : Bool) (h : vlessB a b = x) (w : World) :
    Calls Try.prog 18 #[.agg (vecA a), .agg (vecA b)] w fun e w' => e = .returned (.bool x) ∧ Below w.heap.size w w' := by
  have hb := vlessB_iff (a := a) (b := b)
  rw [h] at hb
  have HB := Lib.hid hb
  clear h hb
  go_enter Try.func18, Try.ntmps18
  go_wp2_with fail
  go_loopw [5] (fun i wr => ∃ k : Nat, k ≤ 6 ∧ i = .int .i64 k ∧ (∀ j, j < k → a.get j ≤ b.get j) ∧ Trk w wr [(w.heap.size + 1, 24, vecA b), (w.heap.size, 24, vecA a)]) (fun i _ => 6 - (intOf i).toNat)
  case atStart => exact ⟨0, by omega, rfl, by omega, ((Trk.nil w).push rfl).push (by simp)⟩
  case round =>
    obtain ⟨k, hk, rfl, hall, T⟩ := hrel
    obtain ⟨q0, -, q1, -⟩ := T.rules
    by_cases hlt : k < 6
    · have ha := vecA_get a k hlt
      have hb := vecA_get b k hlt
      by_cases hle : a.get k ≤ b.get k
      · go_wp2_with fail
        go_quiet (fail)
        go_wp2_with fail
        go_roundw
        case rel => exact ⟨k + 1, by omega, by go_num, fun j hj => if e : j = k then e ▸ hle else hall j (by omega), T.drewN _⟩
        case measure => simp [intOf]; omega
      · go_wp2_with fail
        go_quiet (fail)
        go_wp2_with fail
        go_ret
        refine ⟨?_, (T.drewN _).below⟩
        cases x with
        | false => rfl
        | true => have := HB.out.1 rfl k hlt; omega
    · obtain rfl : k = 6 := by omega
      go_wp2_with fail
      go_ret
      refine ⟨?_, T.below⟩
      have : x = true := HB.out.2 fun j hj => hall j hj
      rw [this]; rfl

theorem max_if (x y : Int) : (if x < y then y else x) = max x y := by omega
theorem min_if (x y : Int) : (if y < x then y else x) = min x y := by omega

/-- For the loop that joins two: the first k are chosen. -/
def mixV (c : Int → Int → Int) (a b : Vec) (k : Nat) : Vec := Vec.ofFn fun j => if j < k then c (a.get j) (b.get j) else a.get j
theorem mixV_zero (c : Int → Int → Int) (a b : Vec) : mixV c a b 0 = a := rfl
theorem mixV_six (c : Int → Int → Int) (a b : Vec) : mixV c a b 6 = Vec.map2 c a b := rfl
theorem mixV_get (c : Int → Int → Int) (a b : Vec) (k : Nat) (h : k < 6) : (mixV c a b k).get k = a.get k := by
  unfold mixV; rw [Vec.get_ofFn _ k h, if_neg (Nat.lt_irrefl k)]
theorem mixV_succ (c : Int → Int → Int) (a b : Vec) (k : Nat) (h : k < 6) : (mixV c a b k).set k (c (a.get k) (b.get k)) = mixV c a b (k + 1) :=
  Vec.six (P := fun k => (mixV c a b k).set k (c (a.get k) (b.get k)) = mixV c a b (k + 1)) rfl rfl rfl rfl rfl rfl k h

theorem rjoin (a b : Vec) (w : World) :
    Calls Try.prog 54 #[.agg (vecA a), .agg (vecA b)] w fun e w' => e = .returned (.agg (vecA (Vec.map2 max a b))) ∧ Below w.heap.size w w' := by
  go_enter Try.func54, Try.ntmps54
  go_wp2_with fail
  go_loopw [5] (fun i wr => ∃ k : Nat, k ≤ 6 ∧ i = .int .i64 k ∧ Trk w wr [(w.heap.size, 24, vecA (mixV max a b k)), (w.heap.size + 1, 24, vecA b), (w.heap.size + 1 + 1, 24, vecA Vec.zero)]) (fun i _ => 6 - (intOf i).toNat)
  case atStart => exact ⟨0, by omega, rfl, ((((Trk.nil w).push (cs := vecA a) rfl).push (cs := vecA b) (g := w.heap.size + 1) (by simp)).push (cs := vecA Vec.zero) (g := w.heap.size + 2) (by simp)).perm (by simp [mixV_zero])⟩
  case round =>
    obtain ⟨k, hk, rfl, T⟩ := hrel
    by_cases hlt : k < 6
    · have ha := vecA_get (mixV max a b k) k hlt
      rw [mixV_get max a b k hlt] at ha
      have hb := vecA_get b k hlt
      obtain ⟨q0, f0, q1, -, q2, -⟩ := T.rules
      have hm := Lib.hid (mixV_succ max a b k hlt)
      have i1 : (0 : Int) ≤ (k : Int) := by omega
      have i2 : (k : Int) < 6 := by omega
      go_wp2_with fail
      go_still_tail 9, (by kernel_rfl)
      have T1 := T.drew
      change wpList _ _ _ _ _ wr.drew
      generalize wr.drew = w2 at T1
      obtain ⟨q0, f0, q1, -, q2, -⟩ := T1.rules
      go_wp2_with fail
      go_roundw
      case rel =>
        refine ⟨k + 1, by omega, by go_num, ?_⟩
        rw [← hm.out, ← vecA_set _ k _ hlt]
        try rw [max_if]
        try rw [min_if]
        exact T1.set_ (Nat.le_refl _) ⟨by omega, by omega, trivial⟩ k _
      case measure => simp [intOf]; omega
    · obtain rfl : k = 6 := by omega
      rw [mixV_six] at T
      obtain ⟨q0, -, q1, -, q2, f2, -⟩ := T.rules
      have hs := T.lts
      go_wp2_with fail
      refine bodyPost_ret (v := .agg (vecA (Vec.map2 max a b))) (by simp [results, Try.results54, go_sem, q2]) rfl ⟨rfl, below_setVec T.below (by omega) _⟩

theorem rmeet (a b : Vec) (w : World) :
    Calls Try.prog 56 #[.agg (vecA a), .agg (vecA b)] w fun e w' => e = .returned (.agg (vecA (Vec.map2 min a b))) ∧ Below w.heap.size w w' := by
  go_enter Try.func56, Try.ntmps56
  go_wp2_with fail
  go_loopw [5] (fun i wr => ∃ k : Nat, k ≤ 6 ∧ i = .int .i64 k ∧ Trk w wr [(w.heap.size, 24, vecA (mixV min a b k)), (w.heap.size + 1, 24, vecA b), (w.heap.size + 1 + 1, 24, vecA Vec.zero)]) (fun i _ => 6 - (intOf i).toNat)
  case atStart => exact ⟨0, by omega, rfl, ((((Trk.nil w).push (cs := vecA a) rfl).push (cs := vecA b) (g := w.heap.size + 1) (by simp)).push (cs := vecA Vec.zero) (g := w.heap.size + 2) (by simp)).perm (by simp [mixV_zero])⟩
  case round =>
    obtain ⟨k, hk, rfl, T⟩ := hrel
    by_cases hlt : k < 6
    · have ha := vecA_get (mixV min a b k) k hlt
      rw [mixV_get min a b k hlt] at ha
      have hb := vecA_get b k hlt
      obtain ⟨q0, f0, q1, -, q2, -⟩ := T.rules
      have hm := Lib.hid (mixV_succ min a b k hlt)
      have i1 : (0 : Int) ≤ (k : Int) := by omega
      have i2 : (k : Int) < 6 := by omega
      go_wp2_with fail
      go_still_tail 9, (by kernel_rfl)
      have T1 := T.drew
      change wpList _ _ _ _ _ wr.drew
      generalize wr.drew = w2 at T1
      obtain ⟨q0, f0, q1, -, q2, -⟩ := T1.rules
      go_wp2_with fail
      go_roundw
      case rel =>
        refine ⟨k + 1, by omega, by go_num, ?_⟩
        rw [← hm.out, ← vecA_set _ k _ hlt]
        try rw [max_if]
        try rw [min_if]
        exact T1.set_ (Nat.le_refl _) ⟨by omega, by omega, trivial⟩ k _
      case measure => simp [intOf]; omega
    · obtain rfl : k = 6 := by omega
      rw [mixV_six] at T
      obtain ⟨q0, -, q1, -, q2, f2, -⟩ := T.rules
      have hs := T.lts
      go_wp2_with fail
      refine bodyPost_ret (v := .agg (vecA (Vec.map2 min a b))) (by simp [results, Try.results56, go_sem, q2]) rfl ⟨rfl, below_setVec T.below (by omega) _⟩


theorem foldl_snoc (c : Int → Int → Int) (L : List Vec) (k : Nat) (u v : Vec) (h : L[k]? = some u) : (L.take (k + 1)).foldl (Vec.map2 c) v = Vec.map2 c ((L.take k).foldl (Vec.map2 c) v) u := by
  rw [List.take_add_one, h]; simp
theorem rall (A : Option Addr) (cap : Nat) (L : List Vec) (B : Nat) (w : World) (hL : VRows w B A L) (hB : B ≤ w.heap.size) (hn : L.length ≤ cap) (hcap : cap ≤ maxLen) :
    Calls Try.prog 24 #[.slice A L.length cap] w fun e w' => e = .returned (.agg (vecA (L.foldl (Vec.map2 max) Vec.zero))) ∧ Below w.heap.size w w' := by
  unfold maxLen at hcap
  go_enter Try.func24, Try.ntmps24
  go_wp2_with fail
  go_loopw [4] (fun i wr => ∃ k : Nat, k ≤ L.length ∧ i = .int .i64 k ∧ Trk w wr [(w.heap.size + 1, 24, vecA ((L.take k).foldl (Vec.map2 max) Vec.zero)), (w.heap.size, 24, vecA Vec.zero)]) (fun i _ => L.length - (intOf i).toNat)
  case atStart => exact ⟨0, by omega, rfl, ((Trk.nil w).push (cs := vecA Vec.zero) rfl).push (cs := vecA Vec.zero) (g := w.heap.size + 1) (by simp)⟩
  case round =>
    obtain ⟨k, hk, rfl, T⟩ := hrel
    by_cases hlt : k < L.length
    · obtain ⟨b, ob, rfl, hbw, hc⟩ := hL (by rintro rfl; simp at hlt)
      obtain ⟨u, hu⟩ : ∃ u, L[k]? = some u := ⟨L[k], List.getElem?_eq_getElem hlt⟩
      have hft := Lib.hid (foldl_snoc max L k u Vec.zero hu)
      generalize hO : (L.take k).foldl (Vec.map2 max) Vec.zero = O at T hft
      have h6 := sixAt_of (hc k u hu)
      obtain ⟨y0, y1, y2, y3, y4, y5⟩ := h6.below T.below (by omega)
      obtain ⟨q0, f0, -⟩ := T.rules
      have i1 : (0 : Int) ≤ (k : Int) := by omega
      have i2 : (k : Int) < (L.length : Int) := by omega
      have C1 := Lib.hid (rjoin O u)
      have Hc := Lib.hid hc
      clear hc hu hO hL
      go_wp2_with fail
      go_still_tail 5, (by kernel_rfl)
      have T1 := T.drew
      change wpList _ _ _ _ _ wr.drew
      generalize wr.drew = w2 at T1
      clear q0 f0 y0 y1 y2 y3 y4 y5
      go_wp2_with (go_at_call 54; (with_reducible refine (Calls.trk (C1.out _) T1).mono ?_); rintro e w3 ⟨rfl, T2, q0, f0, -⟩)
      go_roundw
      case rel =>
        refine ⟨k + 1, by omega, by go_num, ?_⟩
        rw [hft.out]
        have hs := T2.lt
        exact ⟨below_setVec T2.below (by omega) _, by
          intro g t cs hm
          rcases List.mem_cons.1 hm with e | hm
          · cases e; exact (T2.blk _ _ _ List.mem_cons_self).setVec _
          · simp at hm; obtain ⟨rfl, rfl, rfl⟩ := hm; exact (T2.blk _ _ _ (by simp)).farVec (by omega) _⟩
      case measure => simp [intOf]; omega
    · obtain rfl : k = L.length := by omega
      rw [List.take_of_length_le (Nat.le_refl _)] at T
      generalize hO : L.foldl (Vec.map2 max) Vec.zero = O at T
      have HO := Lib.hid hO
      clear hO
      obtain ⟨q0, -, q1, f1, -⟩ := T.rules
      go_wp2_with fail
      refine bodyPost_ret (v := .agg (vecA O)) (by simp [results, Try.results24, go_sem, q1]) rfl ⟨by rw [HO.out], below_setVec T.below (by omega) _⟩

theorem rleast (A : Option Addr) (cap : Nat) (L : List Vec) (B : Nat) (w : World) (hL : VRows w B A L) (hB : B ≤ w.heap.size) (hn : L.length ≤ cap) (hcap : cap ≤ maxLen) :
    Calls Try.prog 26 #[.slice A L.length cap] w fun e w' => e = .returned (.agg (vecA (Vec.foldV min L))) ∧ Below w.heap.size w w' := by
  unfold maxLen at hcap
  rcases L with _ | ⟨v, L⟩
  · go_enter Try.func26, Try.ntmps26
    go_wp2_with fail
    go_returns
    refine ⟨rfl, ?_⟩
    go_grown
  · obtain ⟨b, ob, rfl, hbw, hc⟩ := hL (by simp)
    have hl : ((L.length + 1 : Nat) : Int) = (L.length : Int) + 1 := by omega
    have h6 := sixAt_of (hc 0 v rfl)
    rw [Nat.zero_mul, Nat.add_zero] at h6
    obtain ⟨hx0, hx1, hx2, hx3, hx4, hx5⟩ := h6
    have HC := Lib.hid hc
    clear hc hL
    simp only [List.length_cons] at hn ⊢
    have hq0 : ((L.length : Int) + 1 == 0) = false := by rw [beq_eq_false_iff_ne]; omega
    have hbw2 : b < w.heap.size := by omega
    go_enter Try.func26, Try.ntmps26
    go_wp2_with fail
    go_loopw [4] (fun i wr => ∃ k : Nat, k ≤ L.length ∧ i = .int .i64 ((k : Int) + 1) ∧ Trk w wr [(w.heap.size + 1, 24, vecA ((L.take k).foldl (Vec.map2 min) v)), (w.heap.size, 24, vecA Vec.zero)]) (fun i _ => L.length + 1 - (intOf i).toNat)
    case atStart => exact ⟨0, by omega, rfl, ((Trk.nil w).push (cs := vecA Vec.zero) rfl).push (cs := vecA v) (g := w.heap.size + 1) (by simp)⟩
    case round =>
      obtain ⟨k, hk, rfl, T⟩ := hrel
      by_cases hlt : k < L.length
      · obtain ⟨u, hu⟩ : ∃ u, L[k]? = some u := ⟨L[k], List.getElem?_eq_getElem hlt⟩
        have hft := Lib.hid (foldl_snoc min L k u v hu)
        generalize hO : (L.take k).foldl (Vec.map2 min) v = O at T hft
        have h6 := sixAt_of (HC.out (k + 1) u (by simpa using hu))
        obtain ⟨y0, y1, y2, y3, y4, y5⟩ := h6.below T.below (by omega)
        obtain ⟨q0, f0, -⟩ := T.rules
        have i1 : (0 : Int) ≤ (k : Int) + 1 := by omega
        have i2 : (k : Int) + 1 < (L.length : Int) + 1 := by omega
        have i3 : ((k : Int) + 1).toNat = k + 1 := by omega
        have C1 := Lib.hid (rmeet O u)
        clear hu hO hx0 hx1 hx2 hx3 hx4 hx5
        go_wp2_with fail
        go_still_tail 5, (by kernel_rfl)
        have T1 := T.drew
        change wpList _ _ _ _ _ wr.drew
        generalize wr.drew = w2 at T1
        clear q0 f0 y0 y1 y2 y3 y4 y5
        go_wp2_with (go_at_call 56; (with_reducible refine (Calls.trk (C1.out _) T1).mono ?_); rintro e w3 ⟨rfl, T2, q0, f0, -⟩)
        go_roundw
        case rel =>
          refine ⟨k + 1, by omega, by go_num, ?_⟩
          rw [hft.out]
          have hs := T2.lt
          exact ⟨below_setVec T2.below (by omega) _, by
            intro g t cs hm
            rcases List.mem_cons.1 hm with e | hm
            · cases e; exact (T2.blk _ _ _ List.mem_cons_self).setVec _
            · simp at hm; obtain ⟨rfl, rfl, rfl⟩ := hm; exact (T2.blk _ _ _ (by simp)).farVec (by omega) _⟩
        case measure => simp [intOf]; omega
      · obtain rfl : k = L.length := by omega
        rw [List.take_of_length_le (Nat.le_refl _)] at T
        generalize hO : L.foldl (Vec.map2 min) v = O at T
        have HO := Lib.hid hO
        clear hO
        obtain ⟨q0, -, q1, f1, -⟩ := T.rules
        go_wp2_with fail
        refine bodyPost_ret (v := .agg (vecA O)) (by simp [results, Try.results26, go_sem, q1]) rfl ⟨by rw [← HO.out]; rfl, below_setVec T.below (by omega) _⟩
theorem lackSum_gt (a b : Vec) (k : Nat) (h0 : a.get k < b.get k) : lackSum a b (k + 1) = (lackSum a b k + b.get k - a.get k) % 18446744073709551616 := by
  simp only [lackSum, lackOf, if_pos h0]; omega
theorem lackSum_le (a b : Vec) (k : Nat) (h0 : ¬ a.get k < b.get k) : lackSum a b (k + 1) = lackSum a b k := by
  have := lackSum_range a b k
  simp only [lackSum, lackOf, if_neg h0]; omega
set_option maxHeartbeats 400000 in
theorem rlack (a b : Vec) (ha : a.ok) (hb : b.ok) (w : World) :
    Calls Try.prog 22 #[.agg (vecA a), .agg (vecA b)] w fun e w' => e = .returned (.int .u64 (vlack a b)) ∧ Below w.heap.size w w' := by
  go_enter Try.func22, Try.ntmps22
  go_wp2_with fail
  go_loopw [5, 6] (fun n i wr => ∃ k : Nat, k ≤ 6 ∧ i = .int .i64 k ∧ n = .int .u64 (lackSum a b k) ∧ Trk w wr [(w.heap.size + 1, 24, vecA b), (w.heap.size, 24, vecA a)]) (fun _ i _ => 6 - (intOf i).toNat)
  case atStart => exact ⟨0, by omega, rfl, rfl, ((Trk.nil w).push rfl).push (by simp)⟩
  case round =>
    obtain ⟨k, hk, rfl, rfl, T⟩ := hrel
    obtain ⟨q0, -, q1, -⟩ := T.rules
    by_cases hlt : k < 6
    · have ga := vecA_get a k hlt
      have gb := vecA_get b k hlt
      by_cases hle : a.get k < b.get k
      · have HL := Lib.hid (lackSum_gt a b k hle)
        have hd : decide (a.get k < b.get k) = true := by simpa using hle
        go_wp2_with fail
        go_quiet (fail)
        go_wp2_with fail
        go_quiet (fail)
        go_wp2_with fail
        go_roundw
        case rel => exact ⟨k + 1, by omega, by go_num, by rw [HL.out]; simp [IntKind.wrap_u64], (T.drewN _)⟩
        case measure => simp [intOf]; omega
      · have HL := Lib.hid (lackSum_le a b k hle)
        have hd : decide (a.get k < b.get k) = false := by simpa using hle
        go_wp2_with fail
        go_quiet (fail)
        go_wp2_with fail
        go_roundw
        case rel => exact ⟨k + 1, by omega, by go_num, by rw [HL.out], (T.drewN _)⟩
        case measure => simp [intOf]; omega
    · obtain rfl : k = 6 := by omega
      go_wp2_with fail
      go_ret
      exact ⟨rfl, T.below⟩
end Go.Proofs.Ytnhjphmcdamoaaa
