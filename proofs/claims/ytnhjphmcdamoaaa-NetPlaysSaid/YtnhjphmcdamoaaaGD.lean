/-
  The walks of the laws of chapter 6: works, VectorNext, VectorLattice.
  The walk of VectorLattice, with the plain facts on greatest and least numbers.
  Plain facts on the greatest of many vectors: the order, and how often they come, says nothing.
-/
import Derived.Test.YtnhjphmcdamoaaaGO
namespace Go.Proofs.Ytnhjphmcdamoaaa
set_option linter.unusedVariables false
set_option linter.unusedSimpArgs false
open Go.RowKit

def exA : Vec := ⟨1, 2, 0, 0, 0, 0⟩
def exB : Vec := ⟨2, 1, 0, 0, 0, 0⟩
def exJ : Vec := ⟨2, 2, 0, 0, 0, 0⟩
def exM : Vec := ⟨1, 1, 0, 0, 0, 0⟩
theorem exA_eq : vecA ⟨1, 2, 0, 0, 0, 0⟩ = vecA exA := rfl
theorem exB_eq : vecA ⟨2, 1, 0, 0, 0, 0⟩ = vecA exB := rfl
theorem exJ_eq : vecA ⟨2, 2, 0, 0, 0, 0⟩ = vecA exJ := rfl
theorem exM_eq : vecA ⟨1, 1, 0, 0, 0, 0⟩ = vecA exM := rfl
theorem ok_of {v : Vec} (h : decide (0 ≤ v.v0 ∧ v.v0 ≤ 9 ∧ 0 ≤ v.v1 ∧ v.v1 ≤ 9 ∧ 0 ≤ v.v2 ∧ v.v2 ≤ 9 ∧ 0 ≤ v.v3 ∧ v.v3 ≤ 9 ∧ 0 ≤ v.v4 ∧ v.v4 ≤ 9 ∧ 0 ≤ v.v5 ∧ v.v5 ≤ 9) = true) : v.ok := by
  rw [decide_eq_true_eq] at h
  exact Vec.six (P := fun k => 0 ≤ v.get k ∧ v.get k ≤ 18446744073709551615) (by simp only [Vec.get]; omega) (by simp only [Vec.get]; omega) (by simp only [Vec.get]; omega) (by simp only [Vec.get]; omega) (by simp only [Vec.get]; omega) (by simp only [Vec.get]; omega)
theorem vjoin2 (g : Nat) (a b c : Vec) (hc : Vec.map2 max a b = c) (w : World) (h : w.heap[g]? = some (.cells #[.int .u64 a.v0, .int .u64 a.v1, .int .u64 a.v2, .int .u64 a.v3, .int .u64 a.v4, .int .u64 a.v5, .int .u64 b.v0, .int .u64 b.v1, .int .u64 b.v2, .int .u64 b.v3, .int .u64 b.v4, .int .u64 b.v5] 24 (0, 0))) :
    Calls Try.prog 23 #[.slice (some ⟨g, 0, none⟩) 2 2] w fun e w' => e = .returned (.agg (vecA c)) ∧ Below w.heap.size w w' := by
  subst hc; exact join_two g a b w h
theorem vmeet2 (g : Nat) (a b c : Vec) (hc : Vec.map2 min a b = c) (w : World) (h : w.heap[g]? = some (.cells #[.int .u64 a.v0, .int .u64 a.v1, .int .u64 a.v2, .int .u64 a.v3, .int .u64 a.v4, .int .u64 a.v5, .int .u64 b.v0, .int .u64 b.v1, .int .u64 b.v2, .int .u64 b.v3, .int .u64 b.v4, .int .u64 b.v5] 24 (0, 0))) :
    Calls Try.prog 25 #[.slice (some ⟨g, 0, none⟩) 2 2] w fun e w' => e = .returned (.agg (vecA c)) ∧ Below w.heap.size w w' := by
  subst hc; exact meet_two g a b w h
theorem vnext' (v : Vec) (hv : v.ok) (o x y : Int) (h : vnext v o = (x, y)) (w : World) :
    Calls Try.prog 11 #[.agg (vecA v), .int .i64 o] w fun e w' => e = .returned (.tuple #[.int .u64 x, .int .i64 y]) ∧ Below w.heap.size w w' := by
  have c := vnext_any v hv o w
  rw [h] at c; exact c
theorem vwith' (v : Vec) (o s : Int) (x : Vec) (y : Int) (h : vwith v o s = (x, y)) (w : World) :
    Calls Try.prog 13 #[.agg (vecA v), .int .i64 o, .int .u64 s] w fun e w' => e = .returned (.tuple #[.agg (vecA x), .int .i64 y]) ∧ Below w.heap.size w w' := by
  have c := vwith_any v o s w
  rw [h] at c; exact c
theorem vhas' (v : Vec) (o s : Int) (x : Bool) (h : vhasB v o s = x) (w : World) :
    Calls Try.prog 19 #[.agg (vecA v), .int .i64 o, .int .u64 s] w fun e w' => e = .returned (.bool x) ∧ Below w.heap.size w w' := by
  subst h; exact vhas v o s w
theorem vless' (a b : Vec) (x : Bool) (h : vlessB a b = x) (w : World) :
    Calls Try.prog 17 #[.agg (vecA a), .agg (vecA b)] w fun e w' => e = .returned (.bool x) ∧ Below w.heap.size w w' := by
  subst h; exact vless a b w
theorem vmay' (a : Vec) (x : Bool) (h : vmayB a = x) (w : World) :
    Calls Try.prog 15 #[.agg (vecA a)] w fun e w' => e = .returned (.bool x) ∧ Below w.heap.size w w' := by
  subst h; exact vmay a w
theorem vlack' (a b : Vec) (ha : a.ok) (hb : b.ok) (x : Int) (h : vlack a b = x) (w : World) :
    Calls Try.prog 21 #[.agg (vecA a), .agg (vecA b)] w fun e w' => e = .returned (.int .u64 x) ∧ Below w.heap.size w w' := by
  subst h; exact vlack_any a b ha hb w
theorem exA_ok : exA.ok := ok_of (by decide)
theorem exJ_ok : exJ.ok := ok_of (by decide)
theorem w06_1 (w : World) : Calls Try.prog 11 #[.agg (vecA exA), .int .i64 3] w fun e w' => e = .returned (.tuple #[.int .u64 1, .int .i64 0]) ∧ Below w.heap.size w w' := vnext' exA exA_ok 3 1 0 rfl w
theorem w06_2 (w : World) : Calls Try.prog 11 #[.agg (vecA exA), .int .i64 7] w fun e w' => e = .returned (.tuple #[.int .u64 0, .int .i64 10]) ∧ Below w.heap.size w w' := vnext' exA exA_ok 7 0 10 rfl w
theorem w06_3 (w : World) : Calls Try.prog 17 #[.agg (vecA exA), .agg (vecA exJ)] w fun e w' => e = .returned (.bool true) ∧ Below w.heap.size w w' := vless' exA exJ true (by decide) w
theorem w06_4 (w : World) : Calls Try.prog 17 #[.agg (vecA exB), .agg (vecA exA)] w fun e w' => e = .returned (.bool false) ∧ Below w.heap.size w w' := vless' exB exA false (by decide) w
theorem w06_5 (w : World) : Calls Try.prog 19 #[.agg (vecA exA), .int .i64 2, .int .u64 2] w fun e w' => e = .returned (.bool true) ∧ Below w.heap.size w w' := vhas' exA 2 2 true (by decide) w
theorem w06_6 (w : World) : Calls Try.prog 19 #[.agg (vecA exA), .int .i64 2, .int .u64 3] w fun e w' => e = .returned (.bool false) ∧ Below w.heap.size w w' := vhas' exA 2 3 false (by decide) w
theorem w06_7 (w : World) : Calls Try.prog 21 #[.agg (vecA exA), .agg (vecA exJ)] w fun e w' => e = .returned (.int .u64 1) ∧ Below w.heap.size w w' := vlack' exA exJ exA_ok exJ_ok 1 (by decide) w
theorem w06_8 (w : World) : Calls Try.prog 15 #[.agg (vecA exA)] w fun e w' => e = .returned (.bool true) ∧ Below w.heap.size w w' := vmay' exA true (by decide) w
set_option maxHeartbeats 1000000 in
set_option maxRecDepth 100000 in
theorem works06 (w : World) : Calls Try.prog 10 #[] w fun e w' => e = .returned (.bool true) ∧ Below w.heap.size w w' := by
  have e1 := exA_eq
  have e2 := exB_eq
  have e3 := exJ_eq
  have e4 := exM_eq
  go_enter Try.func10, Try.ntmps10
  go_wp2_with fail
  have T0 : Trk w _ _ := (((Trk.nil w).push (t := 24) (cs := vecA exA) rfl).push (t := 24) (cs := vecA exB) (g := w.heap.size + 1) (by simp)).alloc (.cells #[.int .u64 1, .int .u64 2, .int .u64 0, .int .u64 0, .int .u64 0, .int .u64 0, .int .u64 2, .int .u64 1, .int .u64 0, .int .u64 0, .int .u64 0, .int .u64 0] 24)
  refine (Calls.trk (vjoin2 _ exA exB exJ rfl _ (Blk.new_at (by simp) rfl)) T0).mono ?_
  rintro e w1 ⟨rfl, T1, r1, f1, r2, f2, -⟩
  have T2 := T1.push (t := 24) (cs := vecA exJ) rfl
  obtain ⟨s1, g1, s2, g2, s3, g3, -⟩ := T2.rules
  clear T0 r1 f1 r2 f2
  clear s1 g1 s2 g2 s3 g3 T1
  obtain ⟨s1, g1, s2, g2, s3, g3, -⟩ := T2.rules
  go_wp2_with (first
    | (go_at_call 11; (with_reducible refine (Calls.trk (w06_1 _) (by assumption)).mono ?_); rintro e w' ⟨rfl, T, r1, f1, r2, f2, r3, f3, -⟩)
    | (go_at_call 11; (with_reducible refine (Calls.trk (w06_2 _) (by assumption)).mono ?_); rintro e w' ⟨rfl, T, r1, f1, r2, f2, r3, f3, -⟩)
    | (go_at_call 25; refine (Calls.trk (vmeet2 _ exA exB exM rfl _ (heap_alloc_new _ _)) (Trk.alloc (by assumption) _)).mono ?_; rintro e w' ⟨rfl, T, r1, f1, r2, f2, r3, f3, -⟩)
    | (go_at_call 17; (with_reducible refine (Calls.trk (w06_3 _) (by assumption)).mono ?_); rintro e w' ⟨rfl, T, r1, f1, r2, f2, r3, f3, -⟩)
    | (go_at_call 17; (with_reducible refine (Calls.trk (w06_4 _) (by assumption)).mono ?_); rintro e w' ⟨rfl, T, r1, f1, r2, f2, r3, f3, -⟩)
    | (go_at_call 19; (with_reducible refine (Calls.trk (w06_5 _) (by assumption)).mono ?_); rintro e w' ⟨rfl, T, r1, f1, r2, f2, r3, f3, -⟩)
    | (go_at_call 19; (with_reducible refine (Calls.trk (w06_6 _) (by assumption)).mono ?_); rintro e w' ⟨rfl, T, r1, f1, r2, f2, r3, f3, -⟩)
    | (go_at_call 21; (with_reducible refine (Calls.trk (w06_7 _) (by assumption)).mono ?_); rintro e w' ⟨rfl, T, r1, f1, r2, f2, r3, f3, -⟩)
    | (go_at_call 15; (with_reducible refine (Calls.trk (w06_8 _) (by assumption)).mono ?_); rintro e w' ⟨rfl, T, r1, f1, r2, f2, r3, f3, -⟩))
  go_ret
  exact ⟨rfl, T.below⟩
end Go.Proofs.Ytnhjphmcdamoaaa
namespace Go.Proofs.Ytnhjphmcdamoaaa
set_option linter.unusedVariables false
set_option linter.unusedSimpArgs false
open Go.RowKit

namespace Vec
theorem ext2 {x y : Vec} (h : ∀ k, k < 6 → x.get k = y.get k) : x = y := ext_get h
theorem get_max (a b : Vec) (k : Nat) (h : k < 6) : (map2 max a b).get k = max (a.get k) (b.get k) := get_map2 max a b k h
theorem get_min (a b : Vec) (k : Nat) (h : k < 6) : (map2 min a b).get k = min (a.get k) (b.get k) := get_map2 min a b k h
theorem meet_join (a b : Vec) : map2 min a (map2 max a b) = a := ext2 fun k hk => by rw [get_min _ _ k hk, get_max _ _ k hk]; omega
theorem join_meet (a b : Vec) : map2 max a (map2 min a b) = a := ext2 fun k hk => by rw [get_max _ _ k hk, get_min _ _ k hk]; omega
theorem join_comm (a b : Vec) : map2 max b a = map2 max a b := ext2 fun k hk => by rw [get_max _ _ k hk, get_max _ _ k hk]; omega
theorem meet_comm (a b : Vec) : map2 min b a = map2 min a b := ext2 fun k hk => by rw [get_min _ _ k hk, get_min _ _ k hk]; omega
theorem dist1 (a b c : Vec) : map2 max (map2 min a b) (map2 min a c) = map2 min a (map2 max b c) := ext2 fun k hk => by
  simp only [get_max _ _ k hk, get_min _ _ k hk]; omega
theorem dist2 (a b c : Vec) : map2 min (map2 max a b) (map2 max a c) = map2 max a (map2 min b c) := ext2 fun k hk => by
  simp only [get_max _ _ k hk, get_min _ _ k hk]; omega
theorem join_eq_iff (a b : Vec) : decide (map2 max a b = b) = vlessB a b := max_eq_less a b
theorem meet_eq_iff (a b : Vec) : decide (map2 min a b = a) = vlessB a b := by
  rw [Bool.eq_iff_iff, vlessB_iff, decide_eq_true_eq]
  constructor
  · intro h k hk
    have := get_min a b k hk
    rw [h] at this
    omega
  · intro h
    refine ext_get fun k hk => ?_
    rw [get_min a b k hk]
    have := h k hk
    omega
theorem ok_max {a b : Vec} (ha : a.ok) (hb : b.ok) : (map2 max a b).ok := fun k hk => by
  rw [get_max _ _ k hk]; have := ha k hk; have := hb k hk; omega
theorem ok_min {a b : Vec} (ha : a.ok) (hb : b.ok) : (map2 min a b).ok := fun k hk => by
  rw [get_min _ _ k hk]; have := ha k hk; have := hb k hk; omega
end Vec
theorem lack_lattice (a b : Vec) (ha : a.ok) (hb : b.ok) (k : Nat) (hk : k ≤ 6) :
    (lackSum a b k + lackSum b a k) % 18446744073709551616 = lackSum (Vec.map2 min a b) (Vec.map2 max a b) k := by
  induction k with
  | zero => rfl
  | succ k ih =>
    have ih := ih (by omega)
    have := lackSum_range a b k
    have := lackSum_range b a k
    have := ha k (by omega)
    have := hb k (by omega)
    simp only [lackSum, lackOf, Vec.get_max _ _ k (by omega : k < 6), Vec.get_min _ _ k (by omega : k < 6)]
    by_cases h1 : a.get k < b.get k
    · rw [if_pos h1, if_neg (by omega), if_pos (by omega)]; omega
    · by_cases h2 : b.get k < a.get k
      · rw [if_neg h1, if_pos h2, if_pos (by omega)]; omega
      · rw [if_neg h1, if_neg h2, if_neg (by omega)]; omega
theorem lackSum_small (a b : Vec) (ha : ∀ k, k < 6 → 0 ≤ a.get k) (hb : ∀ k, k < 6 → 0 ≤ b.get k ∧ b.get k ≤ 1099511627776) : ∀ k, k ≤ 6 → lackSum a b k ≤ k * 1099511627776 ∧ (lackSum a b k = 0 ↔ ∀ j, j < k → b.get j ≤ a.get j)
  | 0, _ => ⟨by simp [lackSum], by simp [lackSum]⟩
  | k + 1, hk => by
    have ih := lackSum_small a b ha hb k (by omega)
    have r := lackSum_range a b k
    have h1 := ha k (by omega)
    have h2 := hb k (by omega)
    simp only [lackSum, lackOf]
    by_cases h : a.get k < b.get k
    · rw [if_pos h]
      refine ⟨by omega, fun e => by omega, fun e => ?_⟩
      have := e k (by omega)
      omega
    · rw [if_neg h]
      refine ⟨by omega, fun e j hj => ?_, fun e => ?_⟩
      · by_cases ej : j = k
        · subst ej; omega
        · exact ih.2.1 (by omega) j (by omega)
      · have := ih.2.2 fun j hj => e j (by omega)
        omega
theorem lack_less (a b : Vec) (ha : a.ok) (hb : b.ok) (mb : vmayB a = true) : (vlack b a == 0) = vlessB a b := by
  have hm : ∀ k, k < 6 → a.get k ≤ 1099511627776 := by
    have := vlessB_iff.1 ((vmayB_eq a).trans mb)
    exact fun k hk => by have h := this k hk; rw [Vec.get_ofFn _ k hk] at h; exact h
  have h := (lackSum_small b a (fun k hk => (hb k hk).1) (fun k hk => ⟨(ha k hk).1, hm k hk⟩) 6 (Nat.le_refl _)).2
  rw [Bool.eq_iff_iff, vlessB_iff, beq_iff_eq]
  exact h
end Go.Proofs.Ytnhjphmcdamoaaa
namespace Go.Proofs.Ytnhjphmcdamoaaa
set_option linter.unusedVariables false
set_option linter.unusedSimpArgs false
open Go.RowKit
namespace Vec
theorem foldl_map2_get (c : Int → Int → Int) (k : Nat) (hk : k < 6) : ∀ (r : List Vec) (a : Vec), (r.foldl (map2 c) a).get k = (r.map (·.get k)).foldl c (a.get k)
  | [], _ => rfl
  | v :: r, a => by
    rw [List.foldl_cons, foldl_map2_get c k hk r (map2 c a v), get_map2 c a v k hk]; rfl
theorem foldl_max_spec (r : List Int) (a : Int) : (a ≤ r.foldl max a ∧ ∀ x ∈ r, x ≤ r.foldl max a) ∧ (r.foldl max a = a ∨ r.foldl max a ∈ r) := by
  induction r generalizing a with
  | nil => exact ⟨⟨Int.le_refl _, fun _ h => by cases h⟩, .inl rfl⟩
  | cons x r ih =>
    obtain ⟨⟨h1, h2⟩, h3⟩ := ih (max a x)
    rw [List.foldl_cons]
    refine ⟨⟨by omega, fun y hy => ?_⟩, ?_⟩
    · rcases List.mem_cons.1 hy with rfl | hy
      · omega
      · exact h2 y hy
    · rcases h3 with h3 | h3
      · rw [h3]
        rcases Int.le_total a x with h | h
        · rw [Int.max_eq_right h]; exact .inr List.mem_cons_self
        · rw [Int.max_eq_left h]; exact .inl rfl
      · exact .inr (List.mem_cons_of_mem _ h3)
theorem foldl_min_spec (r : List Int) (a : Int) : (r.foldl min a ≤ a ∧ ∀ x ∈ r, r.foldl min a ≤ x) ∧ (r.foldl min a = a ∨ r.foldl min a ∈ r) := by
  induction r generalizing a with
  | nil => exact ⟨⟨Int.le_refl _, fun _ h => by cases h⟩, .inl rfl⟩
  | cons x r ih =>
    obtain ⟨⟨h1, h2⟩, h3⟩ := ih (min a x)
    rw [List.foldl_cons]
    refine ⟨⟨by omega, fun y hy => ?_⟩, ?_⟩
    · rcases List.mem_cons.1 hy with rfl | hy
      · omega
      · exact h2 y hy
    · rcases h3 with h3 | h3
      · rw [h3]
        rcases Int.le_total a x with h | h
        · rw [Int.min_eq_left h]; exact .inl rfl
        · rw [Int.min_eq_right h]; exact .inr List.mem_cons_self
      · exact .inr (List.mem_cons_of_mem _ h3)
/-- What the greatest of several is. -/
theorem join_spec (L : List Vec) (hL : L ≠ []) (k : Nat) (hk : k < 6) : (∀ v ∈ L, v.get k ≤ (foldV max L).get k) ∧ ∃ v ∈ L, (foldV max L).get k = v.get k := by
  obtain ⟨a, r, rfl⟩ := List.exists_cons_of_ne_nil hL
  simp only [foldV]
  rw [foldl_map2_get max k hk r a]
  obtain ⟨⟨h1, h2⟩, h3⟩ := foldl_max_spec (r.map (·.get k)) (a.get k)
  refine ⟨fun v hv => ?_, ?_⟩
  · rcases List.mem_cons.1 hv with rfl | hv
    · exact h1
    · exact h2 _ (List.mem_map.2 ⟨v, hv, rfl⟩)
  · rcases h3 with h3 | h3
    · exact ⟨a, List.mem_cons_self, h3⟩
    · obtain ⟨v, hv, e⟩ := List.mem_map.1 h3
      exact ⟨v, List.mem_cons_of_mem _ hv, e.symm⟩
theorem meet_spec (L : List Vec) (hL : L ≠ []) (k : Nat) (hk : k < 6) : (∀ v ∈ L, (foldV min L).get k ≤ v.get k) ∧ ∃ v ∈ L, (foldV min L).get k = v.get k := by
  obtain ⟨a, r, rfl⟩ := List.exists_cons_of_ne_nil hL
  simp only [foldV]
  rw [foldl_map2_get min k hk r a]
  obtain ⟨⟨h1, h2⟩, h3⟩ := foldl_min_spec (r.map (·.get k)) (a.get k)
  refine ⟨fun v hv => ?_, ?_⟩
  · rcases List.mem_cons.1 hv with rfl | hv
    · exact h1
    · exact h2 _ (List.mem_map.2 ⟨v, hv, rfl⟩)
  · rcases h3 with h3 | h3
    · exact ⟨a, List.mem_cons_self, h3⟩
    · obtain ⟨v, hv, e⟩ := List.mem_map.1 h3
      exact ⟨v, List.mem_cons_of_mem _ hv, e.symm⟩
theorem join_same (L M : List Vec) (h : ∀ v, v ∈ L ↔ v ∈ M) : foldV max L = foldV max M := by
  by_cases hL : L = []
  · subst hL
    have hM : M = [] := by
      rcases M with _ | ⟨x, M⟩
      · rfl
      · exact absurd ((h x).2 List.mem_cons_self) (by simp)
    rw [hM]
  · have hM : M ≠ [] := by
      rintro rfl
      rcases L with _ | ⟨x, L⟩
      · exact hL rfl
      · exact absurd ((h x).1 List.mem_cons_self) (by simp)
    refine ext_get fun k hk => ?_
    obtain ⟨a1, v, hv, a2⟩ := join_spec L hL k hk
    obtain ⟨b1, u, hu, b2⟩ := join_spec M hM k hk
    have := a1 u ((h u).2 hu)
    have := b1 v ((h v).1 hv)
    omega
theorem ok_join {L : List Vec} (h : ∀ v ∈ L, v.ok) : (foldV max L).ok := fun k hk => by
  by_cases hL : L = []
  · subst hL; exact ok_zero k hk
  · obtain ⟨_, v, hv, e⟩ := join_spec L hL k hk
    rw [e]; exact h v hv k hk
theorem ok_meet {L : List Vec} (h : ∀ v ∈ L, v.ok) : (foldV min L).ok := fun k hk => by
  by_cases hL : L = []
  · subst hL; exact ok_zero k hk
  · obtain ⟨_, v, hv, e⟩ := meet_spec L hL k hk
    rw [e]; exact h v hv k hk
end Vec
theorem less_join {L : List Vec} {v : Vec} (hv : v ∈ L) : vlessB v (Vec.foldV max L) = true :=
  vlessB_iff.2 fun k hk => (Vec.join_spec L (List.ne_nil_of_mem hv) k hk).1 v hv
theorem less_meet {L : List Vec} {v : Vec} (hv : v ∈ L) : vlessB (Vec.foldV min L) v = true :=
  vlessB_iff.2 fun k hk => (Vec.meet_spec L (List.ne_nil_of_mem hv) k hk).1 v hv
theorem has_join {a b : Vec} (h : vlessB a b = true) (o s : Int) (hh : vhasB a o s = true) : vhasB b o s = true := by
  unfold vhasB at hh ⊢
  simp only [Bool.and_eq_true, decide_eq_true_eq] at hh ⊢
  obtain ⟨h1, h2, h3⟩ := hh
  obtain ⟨k, hk, rfl⟩ := regB_out h1
  have e1 : ((k : Int) + 1 - 1).toNat = k := by omega
  rw [e1] at h3 ⊢
  have := vlessB_iff.1 h k hk
  exact ⟨h1, h2, by omega⟩
theorem all_less (L : List Vec) (v : Vec) (hv : v.ok) : L.all (vlessB · v) = vlessB (Vec.foldV max L) v := by
  rw [Bool.eq_iff_iff, List.all_eq_true, vlessB_iff]
  by_cases hL : L = []
  · subst hL
    exact ⟨fun _ k hk => by show Vec.zero.get k ≤ _; rw [Vec.get_zero]; exact (hv k hk).1, fun _ x hx => by cases hx⟩
  · constructor
    · intro h k hk
      obtain ⟨_, u, hu, e⟩ := Vec.join_spec L hL k hk
      rw [e]; exact vlessB_iff.1 (h u hu) k hk
    · intro h x hx
      exact vlessB_iff.2 fun k hk => Int.le_trans ((Vec.join_spec L hL k hk).1 x hx) (h k hk)
theorem meet_le_join (L : List Vec) : Vec.map2 max (Vec.foldV max L) (Vec.foldV min L) = Vec.foldV max L := Vec.ext_get fun k hk => by
  rw [Vec.get_max _ _ k hk]
  by_cases hL : L = []
  · subst hL; simp [Vec.foldV]
  · obtain ⟨a1, v, hv, a2⟩ := Vec.join_spec L hL k hk
    obtain ⟨b1, u, hu, b2⟩ := Vec.meet_spec L hL k hk
    have := b1 v hv
    have := a1 v hv
    omega
theorem join_self (a : Vec) : Vec.map2 max a a = a := Vec.ext_get fun k hk => by rw [Vec.get_max _ _ k hk]; omega
theorem less_join2 (a v : Vec) : vlessB a (Vec.map2 max a v) = true := vlessB_iff.2 fun k hk => by rw [Vec.get_max _ _ k hk]; omega
theorem lackSum_zero (a b : Vec) (h : ∀ k, k < 6 → b.get k ≤ a.get k) : ∀ k, k ≤ 6 → lackSum a b k = 0
  | 0, _ => rfl
  | k + 1, hk => by
    rw [lackSum, lackSum_zero a b h k (by omega), lackOf, if_neg (by have := h k (by omega); omega)]; rfl
theorem lack_join (a v : Vec) : vlack (Vec.map2 max a v) v = 0 := lackSum_zero _ _ (fun k hk => by rw [Vec.get_max _ _ k hk]; omega) 6 (Nat.le_refl _)
/-- The other list: of the numbers by, of l; then all of l from behind. -/
def otherL (L : List Vec) (by_ : List Int) : List Vec := (if L = [] then [] else by_.map fun x => L.getD (x % (L.length : Int)).toNat Vec.zero) ++ L.reverse
theorem other_mem (L : List Vec) (by_ : List Int) (v : Vec) : v ∈ otherL L by_ ↔ v ∈ L := by
  unfold otherL
  rw [List.mem_append, List.mem_reverse]
  constructor
  · rintro (h | h)
    · split at h
      · cases h
      · rename_i hL
        obtain ⟨x, _, rfl⟩ := List.mem_map.1 h
        have hlen : 0 < L.length := List.length_pos_iff.2 hL
        have h1 : (x % (L.length : Int)).toNat < L.length := by
          have := Int.emod_nonneg x (show (L.length : Int) ≠ 0 by omega)
          have := Int.emod_lt_of_pos x (show (0 : Int) < (L.length : Int) by omega)
          omega
        rw [List.getD_eq_getElem?_getD, List.getElem?_eq_getElem h1]
        exact List.getElem_mem h1
    · exact h
  · exact .inr
end Go.Proofs.Ytnhjphmcdamoaaa
