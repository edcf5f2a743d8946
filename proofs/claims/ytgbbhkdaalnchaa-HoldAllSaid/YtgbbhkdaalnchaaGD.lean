/-
  The walks of the laws of chapter 6: works, VectorNext, VectorLattice.
-/
import Derived.Test.YtgbbhkdaalnchaaGO
namespace Go.Proofs.Ytgbbhkdaalnchaa
set_option linter.unusedVariables false
set_option linter.unusedSimpArgs false
open Go.RowKit

def exA : Vec := ⟨1, 2, 0, 0, 0, 0⟩
def exB : Vec := ⟨2, 1, 0, 0, 0, 0⟩
def exJ : Vec := ⟨2, 2, 0, 0, 0, 0⟩
def exM : Vec := ⟨1, 1, 0, 0, 0, 0⟩
theorem exA_eq : vecA ⟨1, 2, 0, 0, 0, 0⟩ = vecA exA := rfl
theorem exB_eq : vecA ⟨2, 1, 0, 0, 0, 0⟩ = vecA exB := rfl
theorem exJ_eq : vecA ⟨2, 2, 0, 0, 0, 0⟩ = vecA exJ := rfl
theorem exM_eq : vecA ⟨1, 1, 0, 0, 0, 0⟩ = vecA exM := rfl
theorem ok_of {v : Vec} (h : decide (0 ≤ v.v0 ∧ v.v0 ≤ 9 ∧ 0 ≤ v.v1 ∧ v.v1 ≤ 9 ∧ 0 ≤ v.v2 ∧ v.v2 ≤ 9 ∧ 0 ≤ v.v3 ∧ v.v3 ≤ 9 ∧ 0 ≤ v.v4 ∧ v.v4 ≤ 9 ∧ 0 ≤ v.v5 ∧ v.v5 ≤ 9) = true) : v.ok := by
  rw [decide_eq_true_eq] at h
  exact Vec.six (P := fun k => 0 ≤ v.get k ∧ v.get k ≤ 18446744073709551615) (by simp only [Vec.get]; omega) (by simp only [Vec.get]; omega) (by simp only [Vec.get]; omega) (by simp only [Vec.get]; omega) (by simp only [Vec.get]; omega) (by simp only [Vec.get]; omega)
theorem vjoin2 (g : Nat) (a b c : Vec) (hc : Vec.map2 max a b = c) (w : World) (h : w.heap[g]? = some (.cells #[.int .u64 a.v0, .int .u64 a.v1, .int .u64 a.v2, .int .u64 a.v3, .int .u64 a.v4, .int .u64 a.v5, .int .u64 b.v0, .int .u64 b.v1, .int .u64 b.v2, .int .u64 b.v3, .int .u64 b.v4, .int .u64 b.v5] 30 (0, 0))) :
    Calls Try.prog 36 #[.slice (some ⟨g, 0, none⟩) 2 2] w fun e w' => e = .returned (.agg (vecA c)) ∧ Below w.heap.size w w' := by
  subst hc; exact join_two g a b w h
theorem vmeet2 (g : Nat) (a b c : Vec) (hc : Vec.map2 min a b = c) (w : World) (h : w.heap[g]? = some (.cells #[.int .u64 a.v0, .int .u64 a.v1, .int .u64 a.v2, .int .u64 a.v3, .int .u64 a.v4, .int .u64 a.v5, .int .u64 b.v0, .int .u64 b.v1, .int .u64 b.v2, .int .u64 b.v3, .int .u64 b.v4, .int .u64 b.v5] 30 (0, 0))) :
    Calls Try.prog 38 #[.slice (some ⟨g, 0, none⟩) 2 2] w fun e w' => e = .returned (.agg (vecA c)) ∧ Below w.heap.size w w' := by
  subst hc; exact meet_two g a b w h
theorem vnext' (v : Vec) (hv : v.ok) (o x y : Int) (h : vnext v o = (x, y)) (w : World) :
    Calls Try.prog 25 #[.agg (vecA v), .int .i64 o] w fun e w' => e = .returned (.tuple #[.int .u64 x, .int .i64 y]) ∧ Below w.heap.size w w' := by
  have c := vnext_any v hv o w
  rw [h] at c; exact c
theorem vwith' (v : Vec) (o s : Int) (x : Vec) (y : Int) (h : vwith v o s = (x, y)) (w : World) :
    Calls Try.prog 27 #[.agg (vecA v), .int .i64 o, .int .u64 s] w fun e w' => e = .returned (.tuple #[.agg (vecA x), .int .i64 y]) ∧ Below w.heap.size w w' := by
  have c := vwith_any v o s w
  rw [h] at c; exact c
theorem vhas' (v : Vec) (o s : Int) (x : Bool) (h : vhasB v o s = x) (w : World) :
    Calls Try.prog 32 #[.agg (vecA v), .int .i64 o, .int .u64 s] w fun e w' => e = .returned (.bool x) ∧ Below w.heap.size w w' := by
  subst h; exact vhas v o s w
theorem vless' (a b : Vec) (x : Bool) (h : vlessB a b = x) (w : World) :
    Calls Try.prog 30 #[.agg (vecA a), .agg (vecA b)] w fun e w' => e = .returned (.bool x) ∧ Below w.heap.size w w' := by
  subst h; exact vless a b w
theorem vmay' (a : Vec) (x : Bool) (h : vmayB a = x) (w : World) :
    Calls Try.prog 29 #[.agg (vecA a)] w fun e w' => e = .returned (.bool x) ∧ Below w.heap.size w w' := by
  subst h; exact vmay a w
theorem vlack' (a b : Vec) (ha : a.ok) (hb : b.ok) (x : Int) (h : vlack a b = x) (w : World) :
    Calls Try.prog 34 #[.agg (vecA a), .agg (vecA b)] w fun e w' => e = .returned (.int .u64 x) ∧ Below w.heap.size w w' := by
  subst h; exact vlack_any a b ha hb w
theorem exA_ok : exA.ok := ok_of (by decide)
theorem exJ_ok : exJ.ok := ok_of (by decide)
theorem w06_1 (w : World) : Calls Try.prog 25 #[.agg (vecA exA), .int .i64 3] w fun e w' => e = .returned (.tuple #[.int .u64 1, .int .i64 0]) ∧ Below w.heap.size w w' := vnext' exA exA_ok 3 1 0 rfl w
theorem w06_2 (w : World) : Calls Try.prog 25 #[.agg (vecA exA), .int .i64 7] w fun e w' => e = .returned (.tuple #[.int .u64 0, .int .i64 10]) ∧ Below w.heap.size w w' := vnext' exA exA_ok 7 0 10 rfl w
theorem w06_3 (w : World) : Calls Try.prog 30 #[.agg (vecA exA), .agg (vecA exJ)] w fun e w' => e = .returned (.bool true) ∧ Below w.heap.size w w' := vless' exA exJ true (by decide) w
theorem w06_4 (w : World) : Calls Try.prog 30 #[.agg (vecA exB), .agg (vecA exA)] w fun e w' => e = .returned (.bool false) ∧ Below w.heap.size w w' := vless' exB exA false (by decide) w
theorem w06_5 (w : World) : Calls Try.prog 32 #[.agg (vecA exA), .int .i64 2, .int .u64 2] w fun e w' => e = .returned (.bool true) ∧ Below w.heap.size w w' := vhas' exA 2 2 true (by decide) w
theorem w06_6 (w : World) : Calls Try.prog 32 #[.agg (vecA exA), .int .i64 2, .int .u64 3] w fun e w' => e = .returned (.bool false) ∧ Below w.heap.size w w' := vhas' exA 2 3 false (by decide) w
theorem w06_7 (w : World) : Calls Try.prog 34 #[.agg (vecA exA), .agg (vecA exJ)] w fun e w' => e = .returned (.int .u64 1) ∧ Below w.heap.size w w' := vlack' exA exJ exA_ok exJ_ok 1 (by decide) w
theorem w06_8 (w : World) : Calls Try.prog 29 #[.agg (vecA exA)] w fun e w' => e = .returned (.bool true) ∧ Below w.heap.size w w' := vmay' exA true (by decide) w
set_option maxHeartbeats 1000000 in
set_option maxRecDepth 100000 in
theorem works06 (w : World) : Calls Try.prog 19 #[] w fun e w' => e = .returned (.bool true) ∧ Below w.heap.size w w' := by
  have e1 := exA_eq
  have e2 := exB_eq
  have e3 := exJ_eq
  have e4 := exM_eq
  go_enter Try.func19, Try.ntmps19
  go_wp2_with fail
  have T0 : Trk w _ _ := (((Trk.nil w).push (t := 30) (cs := vecA exA) rfl).push (t := 30) (cs := vecA exB) (g := w.heap.size + 1) (by simp)).alloc (.cells #[.int .u64 1, .int .u64 2, .int .u64 0, .int .u64 0, .int .u64 0, .int .u64 0, .int .u64 2, .int .u64 1, .int .u64 0, .int .u64 0, .int .u64 0, .int .u64 0] 30)
  refine (Calls.trk (vjoin2 _ exA exB exJ rfl _ (Blk.new_at (by simp) rfl)) T0).mono ?_
  rintro e w1 ⟨rfl, T1, r1, f1, r2, f2, -⟩
  have T2 := T1.push (t := 30) (cs := vecA exJ) rfl
  obtain ⟨s1, g1, s2, g2, s3, g3, -⟩ := T2.rules
  clear T0 r1 f1 r2 f2
  clear s1 g1 s2 g2 s3 g3 T1
  obtain ⟨s1, g1, s2, g2, s3, g3, -⟩ := T2.rules
  go_wp2_with (first
    | (go_at_call 25; (with_reducible refine (Calls.trk (w06_1 _) (by assumption)).mono ?_); rintro e w' ⟨rfl, T, r1, f1, r2, f2, r3, f3, -⟩)
    | (go_at_call 25; (with_reducible refine (Calls.trk (w06_2 _) (by assumption)).mono ?_); rintro e w' ⟨rfl, T, r1, f1, r2, f2, r3, f3, -⟩)
    | (go_at_call 38; refine (Calls.trk (vmeet2 _ exA exB exM rfl _ (heap_alloc_new _ _)) (Trk.alloc (by assumption) _)).mono ?_; rintro e w' ⟨rfl, T, r1, f1, r2, f2, r3, f3, -⟩)
    | (go_at_call 30; (with_reducible refine (Calls.trk (w06_3 _) (by assumption)).mono ?_); rintro e w' ⟨rfl, T, r1, f1, r2, f2, r3, f3, -⟩)
    | (go_at_call 30; (with_reducible refine (Calls.trk (w06_4 _) (by assumption)).mono ?_); rintro e w' ⟨rfl, T, r1, f1, r2, f2, r3, f3, -⟩)
    | (go_at_call 32; (with_reducible refine (Calls.trk (w06_5 _) (by assumption)).mono ?_); rintro e w' ⟨rfl, T, r1, f1, r2, f2, r3, f3, -⟩)
    | (go_at_call 32; (with_reducible refine (Calls.trk (w06_6 _) (by assumption)).mono ?_); rintro e w' ⟨rfl, T, r1, f1, r2, f2, r3, f3, -⟩)
    | (go_at_call 34; (with_reducible refine (Calls.trk (w06_7 _) (by assumption)).mono ?_); rintro e w' ⟨rfl, T, r1, f1, r2, f2, r3, f3, -⟩)
    | (go_at_call 29; (with_reducible refine (Calls.trk (w06_8 _) (by assumption)).mono ?_); rintro e w' ⟨rfl, T, r1, f1, r2, f2, r3, f3, -⟩))
  go_ret
  exact ⟨rfl, T.below⟩
end Go.Proofs.Ytgbbhkdaalnchaa
