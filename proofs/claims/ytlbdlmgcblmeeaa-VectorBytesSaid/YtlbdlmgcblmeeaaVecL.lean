/-
  The walks of the laws of chapter 6: works, VectorNext, VectorLattice.
-/
import Derived.Test.YtlbdlmgcblmeeaaVecD
namespace Go.Proofs.Ytlbdlmgcblmeeaa
open Go.RowKit

def exA : Vec := ⟨1, 2, 0, 0, 0, 0⟩
def exB : Vec := ⟨2, 1, 0, 0, 0, 0⟩
def exJ : Vec := ⟨2, 2, 0, 0, 0, 0⟩
def exM : Vec := ⟨1, 1, 0, 0, 0, 0⟩
theorem exA_eq : vecA ⟨1, 2, 0, 0, 0, 0⟩ = vecA exA := rfl
theorem exB_eq : vecA ⟨2, 1, 0, 0, 0, 0⟩ = vecA exB := rfl
theorem exJ_eq : vecA ⟨2, 2, 0, 0, 0, 0⟩ = vecA exJ := rfl
theorem exM_eq : vecA ⟨1, 1, 0, 0, 0, 0⟩ = vecA exM := rfl
theorem ok_of {v : Vec} (h : decide (0 ≤ v.v0 ∧ v.v0 ≤ 9 ∧ 0 ≤ v.v1 ∧ v.v1 ≤ 9 ∧ 0 ≤ v.v2 ∧ v.v2 ≤ 9 ∧ 0 ≤ v.v3 ∧ v.v3 ≤ 9 ∧ 0 ≤ v.v4 ∧ v.v4 ≤ 9 ∧ 0 ≤ v.v5 ∧ v.v5 ≤ 9) = true) : v.ok := by
  rw [decide_eq_true_eq] at h
  exact Vec.six (P := fun k => 0 ≤ v.get k ∧ v.get k ≤ 18446744073709551615) (by simp only [Vec.get]; omega) (by simp only [Vec.get]; omega) (by simp only [Vec.get]; omega) (by simp only [Vec.get]; omega) (by simp only [Vec.get]; omega) (by simp only [Vec.get]; omega)
theorem vjoin2 (g : Nat) (a b c : Vec) (hc : Vec.map2 max a b = c) (w : World) (h : w.heap[g]? = some (.cells #[.int .u64 a.v0, .int .u64 a.v1, .int .u64 a.v2, .int .u64 a.v3, .int .u64 a.v4, .int .u64 a.v5, .int .u64 b.v0, .int .u64 b.v1, .int .u64 b.v2, .int .u64 b.v3, .int .u64 b.v4, .int .u64 b.v5] 25 (0, 0))) :
    Calls Try.prog 9 #[.slice (some ⟨g, 0, none⟩) 2 2] w fun e w' => e = .returned (.agg (vecA c)) ∧ Below w.heap.size w w' := by
  subst hc; exact join_two g a b w h
theorem vmeet2 (g : Nat) (a b c : Vec) (hc : Vec.map2 min a b = c) (w : World) (h : w.heap[g]? = some (.cells #[.int .u64 a.v0, .int .u64 a.v1, .int .u64 a.v2, .int .u64 a.v3, .int .u64 a.v4, .int .u64 a.v5, .int .u64 b.v0, .int .u64 b.v1, .int .u64 b.v2, .int .u64 b.v3, .int .u64 b.v4, .int .u64 b.v5] 25 (0, 0))) :
    Calls Try.prog 10 #[.slice (some ⟨g, 0, none⟩) 2 2] w fun e w' => e = .returned (.agg (vecA c)) ∧ Below w.heap.size w w' := by
  subst hc; exact meet_two g a b w h
theorem vnext' (v : Vec) (hv : v.ok) (o x y : Int) (h : vnext v o = (x, y)) (w : World) :
    Calls Try.prog 15 #[.agg (vecA v), .int .i64 o] w fun e w' => e = .returned (.tuple #[.int .u64 x, .int .i64 y]) ∧ Below w.heap.size w w' := by
  have c := vnext_any v hv o w
  rw [h] at c; exact c
theorem vwith' (v : Vec) (o s : Int) (x : Vec) (y : Int) (h : vwith v o s = (x, y)) (w : World) :
    Calls Try.prog 17 #[.agg (vecA v), .int .i64 o, .int .u64 s] w fun e w' => e = .returned (.tuple #[.agg (vecA x), .int .i64 y]) ∧ Below w.heap.size w w' := by
  have c := vwith_any v o s w
  rw [h] at c; exact c
theorem vhas' (v : Vec) (o s : Int) (x : Bool) (h : vhasB v o s = x) (w : World) :
    Calls Try.prog 12 #[.agg (vecA v), .int .i64 o, .int .u64 s] w fun e w' => e = .returned (.bool x) ∧ Below w.heap.size w w' := by
  subst h; exact vhas v o s w
theorem vless' (a b : Vec) (x : Bool) (h : vlessB a b = x) (w : World) :
    Calls Try.prog 11 #[.agg (vecA a), .agg (vecA b)] w fun e w' => e = .returned (.bool x) ∧ Below w.heap.size w w' := by
  subst h; exact vless a b w
theorem vmay' (a : Vec) (x : Bool) (h : vmayB a = x) (w : World) :
    Calls Try.prog 14 #[.agg (vecA a)] w fun e w' => e = .returned (.bool x) ∧ Below w.heap.size w w' := by
  subst h; exact vmay a w
theorem vlack' (a b : Vec) (ha : a.ok) (hb : b.ok) (x : Int) (h : vlack a b = x) (w : World) :
    Calls Try.prog 13 #[.agg (vecA a), .agg (vecA b)] w fun e w' => e = .returned (.int .u64 x) ∧ Below w.heap.size w w' := by
  subst h; exact vlack_any a b ha hb w
theorem exA_ok : exA.ok := ok_of (by decide)
theorem exJ_ok : exJ.ok := ok_of (by decide)
theorem w06_1 (w : World) : Calls Try.prog 15 #[.agg (vecA exA), .int .i64 3] w fun e w' => e = .returned (.tuple #[.int .u64 1, .int .i64 0]) ∧ Below w.heap.size w w' := vnext' exA exA_ok 3 1 0 rfl w
theorem w06_2 (w : World) : Calls Try.prog 15 #[.agg (vecA exA), .int .i64 7] w fun e w' => e = .returned (.tuple #[.int .u64 0, .int .i64 10]) ∧ Below w.heap.size w w' := vnext' exA exA_ok 7 0 10 rfl w
theorem w06_3 (w : World) : Calls Try.prog 11 #[.agg (vecA exA), .agg (vecA exJ)] w fun e w' => e = .returned (.bool true) ∧ Below w.heap.size w w' := vless' exA exJ true (by decide) w
theorem w06_4 (w : World) : Calls Try.prog 11 #[.agg (vecA exB), .agg (vecA exA)] w fun e w' => e = .returned (.bool false) ∧ Below w.heap.size w w' := vless' exB exA false (by decide) w
theorem w06_5 (w : World) : Calls Try.prog 12 #[.agg (vecA exA), .int .i64 2, .int .u64 2] w fun e w' => e = .returned (.bool true) ∧ Below w.heap.size w w' := vhas' exA 2 2 true (by decide) w
theorem w06_6 (w : World) : Calls Try.prog 12 #[.agg (vecA exA), .int .i64 2, .int .u64 3] w fun e w' => e = .returned (.bool false) ∧ Below w.heap.size w w' := vhas' exA 2 3 false (by decide) w
theorem w06_7 (w : World) : Calls Try.prog 13 #[.agg (vecA exA), .agg (vecA exJ)] w fun e w' => e = .returned (.int .u64 1) ∧ Below w.heap.size w w' := vlack' exA exJ exA_ok exJ_ok 1 (by decide) w
theorem w06_8 (w : World) : Calls Try.prog 14 #[.agg (vecA exA)] w fun e w' => e = .returned (.bool true) ∧ Below w.heap.size w w' := vmay' exA true (by decide) w
set_option maxHeartbeats 1000000 in
set_option maxRecDepth 100000 in
theorem works06 (w : World) : Calls Try.prog 8 #[] w fun e w' => e = .returned (.bool true) ∧ Below w.heap.size w w' := by
  have e1 := exA_eq
  have e2 := exB_eq
  have e3 := exJ_eq
  have e4 := exM_eq
  go_enter Try.func8, Try.ntmps8
  go_wp2_with fail
  have T0 : Trk w _ _ := (((Trk.nil w).push (t := 25) (cs := vecA exA) rfl).push (t := 25) (cs := vecA exB) (g := w.heap.size + 1) (by simp)).alloc (.cells #[.int .u64 1, .int .u64 2, .int .u64 0, .int .u64 0, .int .u64 0, .int .u64 0, .int .u64 2, .int .u64 1, .int .u64 0, .int .u64 0, .int .u64 0, .int .u64 0] 25)
  refine (Calls.trk (vjoin2 _ exA exB exJ rfl _ (Blk.new_at (by simp) rfl)) T0).mono ?_
  rintro e w1 ⟨rfl, T1, r1, f1, r2, f2, -⟩
  have T2 := T1.push (t := 25) (cs := vecA exJ) rfl
  obtain ⟨s1, g1, s2, g2, s3, g3, -⟩ := T2.rules
  clear T0 r1 f1 r2 f2
  clear s1 g1 s2 g2 s3 g3 T1
  obtain ⟨s1, g1, s2, g2, s3, g3, -⟩ := T2.rules
  go_wp2_with (first
    | (go_at_call 15; (with_reducible refine (Calls.trk (w06_1 _) (by assumption)).mono ?_); rintro e w' ⟨rfl, T, r1, f1, r2, f2, r3, f3, -⟩)
    | (go_at_call 15; (with_reducible refine (Calls.trk (w06_2 _) (by assumption)).mono ?_); rintro e w' ⟨rfl, T, r1, f1, r2, f2, r3, f3, -⟩)
    | (go_at_call 10; refine (Calls.trk (vmeet2 _ exA exB exM rfl _ (heap_alloc_new _ _)) (Trk.alloc (by assumption) _)).mono ?_; rintro e w' ⟨rfl, T, r1, f1, r2, f2, r3, f3, -⟩)
    | (go_at_call 11; (with_reducible refine (Calls.trk (w06_3 _) (by assumption)).mono ?_); rintro e w' ⟨rfl, T, r1, f1, r2, f2, r3, f3, -⟩)
    | (go_at_call 11; (with_reducible refine (Calls.trk (w06_4 _) (by assumption)).mono ?_); rintro e w' ⟨rfl, T, r1, f1, r2, f2, r3, f3, -⟩)
    | (go_at_call 12; (with_reducible refine (Calls.trk (w06_5 _) (by assumption)).mono ?_); rintro e w' ⟨rfl, T, r1, f1, r2, f2, r3, f3, -⟩)
    | (go_at_call 12; (with_reducible refine (Calls.trk (w06_6 _) (by assumption)).mono ?_); rintro e w' ⟨rfl, T, r1, f1, r2, f2, r3, f3, -⟩)
    | (go_at_call 13; (with_reducible refine (Calls.trk (w06_7 _) (by assumption)).mono ?_); rintro e w' ⟨rfl, T, r1, f1, r2, f2, r3, f3, -⟩)
    | (go_at_call 14; (with_reducible refine (Calls.trk (w06_8 _) (by assumption)).mono ?_); rintro e w' ⟨rfl, T, r1, f1, r2, f2, r3, f3, -⟩))
  go_ret
  exact ⟨rfl, T.below⟩

theorem vnext_err (v : Vec) (o : Int) (h : (vnext v o).2 ≠ 0) : ∃ y : Int, vnext v o = (0, y) ∧ (y != 0) = true ∧ (y == 0) = false := by
  unfold vnext at h ⊢
  split
  · split
    · exact ⟨6, rfl, rfl, rfl⟩
    · rename_i h1 h2; rw [if_pos h1, if_neg h2] at h; exact absurd rfl h
  · exact ⟨10, rfl, rfl, rfl⟩
theorem vnext_ok (v : Vec) (o : Int) (h : (vnext v o).2 = 0) : ∃ k : Nat, k < 6 ∧ o = (k : Int) + 1 ∧ v.get k < 1099511627776 ∧ vnext v o = (v.get k + 1, 0) := by
  unfold vnext at h ⊢
  by_cases h1 : regB o = true
  · rw [if_pos h1] at h ⊢
    obtain ⟨k, hk, rfl⟩ := regB_out h1
    have e1 : ((k : Int) + 1 - 1).toNat = k := by omega
    rw [e1] at h ⊢
    by_cases h2 : 1099511627776 ≤ v.get k
    · rw [if_pos h2] at h; cases h
    · rw [if_neg h2] at h ⊢
      exact ⟨k, hk, rfl, by omega, rfl⟩
  · rw [if_neg h1] at h; cases h
theorem vhas_at (v : Vec) (k : Nat) (hk : k < 6) (s : Int) : vhasB v (k + 1) s = (decide (0 < s) && decide (s ≤ v.get k)) := by
  have e1 : ((k : Int) + 1 - 1).toNat = k := by omega
  unfold vhasB; rw [regB_yes k hk, e1]; rfl
theorem vwith_at (v : Vec) (k : Nat) (hk : k < 6) (s : Int) (hs : s ≤ 1099511627776) : vwith v (k + 1) s = (v.set k s, 0) := by
  have e1 : ((k : Int) + 1 - 1).toNat = k := by omega
  unfold vwith; rw [if_pos (regB_yes k hk), if_neg (by omega), e1]
theorem vless_set (v : Vec) (k : Nat) (hk : k < 6) (s : Int) (hs : v.get k ≤ s) : vlessB v (v.set k s) = true := by
  rw [vlessB_iff]
  intro j hj
  rw [Vec.get_set v k j s hk hj]
  split
  · rename_i h; subst h; exact hs
  · exact Int.le_refl _
theorem vless_set_not (v : Vec) (k : Nat) (hk : k < 6) (s : Int) (hs : v.get k < s) : vlessB (v.set k s) v = false := by
  rw [Bool.eq_false_iff, Ne, vlessB_iff]
  intro h
  have := h k hk
  rw [Vec.get_set_same v k s hk] at this
  omega
theorem lackOf_self (x : Int) : lackOf x x = 0 := by unfold lackOf; rw [if_neg (by omega)]
theorem lackSum_set (v : Vec) (k : Nat) (hk : k < 6) (s d : Int) (hd : lackOf (v.get k) s = d) (h0 : 0 ≤ d) (h1 : d < 18446744073709551616) : ∀ j, j ≤ 6 → lackSum v (v.set k s) j = if k < j then d else 0
  | 0, _ => by simp [lackSum]
  | j + 1, hj => by
    rw [lackSum, lackSum_set v k hk s d hd h0 h1 j (by omega), Vec.get_set v k j s hk (by omega)]
    by_cases e : j = k
    · subst e
      rw [if_neg (by omega), if_pos rfl, hd, if_pos (by omega)]; omega
    · rw [if_neg e, lackOf_self]
      by_cases e2 : k < j
      · rw [if_pos e2, if_pos (by omega)]; omega
      · rw [if_neg e2, if_neg (by omega)]; rfl
theorem vlack_next (v : Vec) (k : Nat) (hk : k < 6) : vlack v (v.set k (v.get k + 1)) = 1 := by
  unfold vlack
  rw [lackSum_set v k hk _ 1 (by unfold lackOf; rw [if_pos (by omega)]; omega) (by omega) (by omega) 6 (Nat.le_refl _), if_pos hk]
theorem ok_set (v : Vec) (hv : v.ok) (k : Nat) (hk : k < 6) (s : Int) (h0 : 0 ≤ s) (h1 : s ≤ 18446744073709551615) : (v.set k s).ok := fun j hj => by
  rw [Vec.get_set v k j s hk hj]
  split
  · exact ⟨h0, h1⟩
  · exact hv j hj

set_option maxHeartbeats 1000000 in
set_option maxRecDepth 100000 in
theorem next_law (v : Vec) (hv : v.ok) (o : Int) (w : World) : Calls Try.prog 6 #[.agg (vecA v), .int .i64 o] w fun e w' => e = .returned (.bool true) ∧ Below w.heap.size w w' := by
  by_cases hn : (vnext v o).2 = 0
  · obtain ⟨k, hk, rfl, hlt, hx⟩ := vnext_ok v o hn
    obtain ⟨b0, b1⟩ := hv k hk
    have c1 := vnext' v hv _ _ _ hx
    have c2 := vwith' v _ _ _ _ (vwith_at v k hk (v.get k + 1) (by omega))
    have c3 := vhas' v (k + 1) (v.get k + 1) false (by rw [vhas_at v k hk]; simp; omega)
    have c4 := vhas' (v.set k (v.get k + 1)) (k + 1) (v.get k + 1) true (by rw [vhas_at _ k hk, Vec.get_set_same v k _ hk]; simp; omega)
    have c5 := vless' _ _ _ (vless_set v k hk (v.get k + 1) (by omega))
    have c6 := vless' _ _ _ (vless_set_not v k hk (v.get k + 1) (by omega))
    have c7 := vlack' _ _ hv (ok_set v hv k hk (v.get k + 1) (by omega) (by omega)) _ (vlack_next v k hk)
    generalize v.get k + 1 = n at c1 c2 c3 c4 c5 c6 c7
    generalize v.set k n = u at c2 c4 c5 c6 c7
    have C1 := Lib.hid c1
    have C2 := Lib.hid c2
    have C3 := Lib.hid c3
    have C4 := Lib.hid c4
    have C5 := Lib.hid c5
    have C6 := Lib.hid c6
    have C7 := Lib.hid c7
    clear c1 c2 c3 c4 c5 c6 c7 hx hn b0 b1 hlt hk
    go_enter Try.func6, Try.ntmps6
    go_wp2_with fail
    have T0 : Trk w _ _ := (Trk.nil w).push (t := 25) (cs := vecA v) rfl
    go_wp2_with (first
      | (go_at_call 15; (refine (Calls.trk (C1.out _) (by assumption)).mono ?_); rintro e w1 ⟨rfl, T1, r1, f1, -⟩)
      | (go_at_call 17; (refine (Calls.trk (C2.out _) (by assumption)).mono ?_); rintro e w2 ⟨rfl, T2', r1, f1, -⟩; have T2 := T2'.push (t := 25) (cs := vecA u) rfl; obtain ⟨s1, g1, s2, g2, -⟩ := T2.rules)
      | (go_at_call 12; (with_reducible refine (Calls.trk (C3.out _) (by assumption)).mono ?_); rintro e w' ⟨rfl, T, r1, f1, r2, f2, -⟩)
      | (go_at_call 12; (with_reducible refine (Calls.trk (C4.out _) (by assumption)).mono ?_); rintro e w' ⟨rfl, T, r1, f1, r2, f2, -⟩)
      | (go_at_call 11; (with_reducible refine (Calls.trk (C5.out _) (by assumption)).mono ?_); rintro e w' ⟨rfl, T, r1, f1, r2, f2, -⟩)
      | (go_at_call 11; (with_reducible refine (Calls.trk (C6.out _) (by assumption)).mono ?_); rintro e w' ⟨rfl, T, r1, f1, r2, f2, -⟩)
      | (go_at_call 13; (with_reducible refine (Calls.trk (C7.out _) (by assumption)).mono ?_); rintro e w' ⟨rfl, T, r1, f1, r2, f2, -⟩)
      | (go_at_call 8; (refine (Calls.trk (works06 _) (by assumption)).mono ?_); rintro e w' ⟨rfl, T, r1, f1, r2, f2, -⟩))
    go_ret
    exact ⟨rfl, T.below⟩
  · obtain ⟨y, hx, hy1, hy2⟩ := vnext_err v o hn
    have C1 := Lib.hid (vnext' v hv _ _ _ hx)
    clear hx hn
    go_enter Try.func6, Try.ntmps6
    go_wp2_with fail
    have T0 : Trk w _ _ := (Trk.nil w).push (t := 25) (cs := vecA v) rfl
    go_wp2_with (first
      | (go_at_call 15; (refine (Calls.trk (C1.out _) (by assumption)).mono ?_); rintro e w1 ⟨rfl, T1, r1, f1, -⟩)
      | (go_at_call 8; (refine (Calls.trk (works06 _) (by assumption)).mono ?_); rintro e w' ⟨rfl, T, r1, f1, -⟩))
    go_ret
    exact ⟨rfl, T.below⟩
end Go.Proofs.Ytlbdlmgcblmeeaa
