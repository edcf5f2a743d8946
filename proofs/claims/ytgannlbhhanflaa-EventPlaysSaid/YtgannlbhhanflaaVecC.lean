/-
  The walks of package vector: Join, Meet, Less, May.
-/
import Derived.Test.YtgannlbhhanflaaVecB
namespace Go.Proofs.Ytgannlbhhanflaa
set_option linter.unusedVariables false
set_option linter.unusedSimpArgs false
open Go.RowKit

theorem info_u64 : (Try.prog.info? 22).map (fun i => i.size) = some 1 := by kernel_rfl
@[go_sem] theorem eqIn_vec (w : World) (d : Nat) (a b : Vec) : (Op.equalIn (d + 2) 24 (.agg (vecA a)) (.agg (vecA b))).run Try.prog w = .ok (decide (a = b)) w := by
  cases hi : Try.prog.info? 22 with
  | none => have h := info_u64; rw [hi] at h; cases h
  | some i =>
    have h := info_u64
    rw [hi] at h
    exact run_equalIn_vec w d _ 22 i a b Try.underlying24 Try.underlying22 hi (by simpa using h)

section
variable (ρ : Operand → Value) (dst : Option Tmp) (x y : Operand) (ty : TypeId) (pos : String) (after : Array Edge) (guard : Option (Nat × Bool))
@[go_sem ↓] theorem execOp_bs1_vec : execOp ρ { dst, op := .buildSlice 25 1 #[(0, x)], type := ty, pos, after, guard } = bs1 25 (ρ x) := by simp [execOp, bs1]
@[go_sem ↓] theorem execOp_bs2_vec : execOp ρ { dst, op := .buildSlice 25 2 #[(0, x), (1, y)], type := ty, pos, after, guard } = bs2 25 (ρ x) (ρ y) := by simp [execOp, bs2]
end
@[go_sem] theorem run_bs1_vec (a : Vec) (w : World) : (bs1 25 (.agg (vecA a))).run Try.prog w = .ok (.value (.slice (some ⟨w.heap.size, 0, none⟩) 1 1)) (w.alloc (.cells (vecA a) 24)) := by kernel_rfl
@[go_sem] theorem run_bs2_vec (a b : Vec) (w : World) : (bs2 25 (.agg (vecA a)) (.agg (vecA b))).run Try.prog w = .ok (.value (.slice (some ⟨w.heap.size, 0, none⟩) 2 2))
    (w.alloc (.cells #[.int .u64 a.v0, .int .u64 a.v1, .int .u64 a.v2, .int .u64 a.v3, .int .u64 a.v4, .int .u64 a.v5, .int .u64 b.v0, .int .u64 b.v1, .int .u64 b.v2, .int .u64 b.v3, .int .u64 b.v4, .int .u64 b.v5] 24)) := by kernel_rfl

theorem join_any (A : Option Addr) (cap : Nat) (L : List Vec) (B : Nat) (w : World) (hL : VRows w B A L) (hB : B ≤ w.heap.size) (hn : L.length ≤ cap) (hcap : cap ≤ maxLen) :
    Calls Try.prog 22 #[.slice A L.length cap] w fun e w' => e = .returned (.agg (vecA (Vec.foldV max L))) ∧ Below w.heap.size w w' := by
  go_enter Try.func22, Try.ntmps22
  go_wp2_with fail
  refine (fold_any _ max (Or.inl ⟨rfl, rfl⟩) A cap L B _ (hL.below ((Below.refl _ _).alloc hB _)) (by simp; omega) hn hcap).mono ?_
  rintro e w1 ⟨rfl, hb1⟩
  have hv1 := (Blk.new w 24 (vecA Vec.zero)).below hb1 (Blk.new _ _ _).lt
  obtain ⟨hr1, hr2⟩ := hv1.rules
  go_wp2
  refine bodyPost_ret (v := .agg (vecA (Vec.foldV max L))) (by simp [results, Try.results22, go_sem, hr1]) rfl ⟨rfl, ?_⟩
  exact below_setVec (((Below.refl _ _).alloc (Nat.le_refl _) _).trans (hb1.mono (by simp))) (by omega) _
theorem meet_any (A : Option Addr) (cap : Nat) (L : List Vec) (B : Nat) (w : World) (hL : VRows w B A L) (hB : B ≤ w.heap.size) (hn : L.length ≤ cap) (hcap : cap ≤ maxLen) :
    Calls Try.prog 24 #[.slice A L.length cap] w fun e w' => e = .returned (.agg (vecA (Vec.foldV min L))) ∧ Below w.heap.size w w' := by
  go_enter Try.func24, Try.ntmps24
  go_wp2_with fail
  refine (fold_any _ min (Or.inr ⟨rfl, rfl⟩) A cap L B _ (hL.below ((Below.refl _ _).alloc hB _)) (by simp; omega) hn hcap).mono ?_
  rintro e w1 ⟨rfl, hb1⟩
  have hv1 := (Blk.new w 24 (vecA Vec.zero)).below hb1 (Blk.new _ _ _).lt
  obtain ⟨hr1, hr2⟩ := hv1.rules
  go_wp2
  refine bodyPost_ret (v := .agg (vecA (Vec.foldV min L))) (by simp [results, Try.results24, go_sem, hr1]) rfl ⟨rfl, ?_⟩
  exact below_setVec (((Below.refl _ _).alloc (Nat.le_refl _) _).trans (hb1.mono (by simp))) (by omega) _

theorem foldV_two (c : Int → Int → Int) (a b : Vec) : Vec.foldV c [a, b] = Vec.map2 c a b := rfl
theorem join_two (g : Nat) (a b : Vec) (w : World) (h : w.heap[g]? = some (.cells #[.int .u64 a.v0, .int .u64 a.v1, .int .u64 a.v2, .int .u64 a.v3, .int .u64 a.v4, .int .u64 a.v5, .int .u64 b.v0, .int .u64 b.v1, .int .u64 b.v2, .int .u64 b.v3, .int .u64 b.v4, .int .u64 b.v5] 24 (0, 0))) :
    Calls Try.prog 22 #[.slice (some ⟨g, 0, none⟩) 2 2] w fun e w' => e = .returned (.agg (vecA (Vec.map2 max a b))) ∧ Below w.heap.size w w' :=
  join_any _ 2 [a, b] (g + 1) w (vrows_two h) (Blk.lt h) (Nat.le_refl _) (by decide)
theorem meet_two (g : Nat) (a b : Vec) (w : World) (h : w.heap[g]? = some (.cells #[.int .u64 a.v0, .int .u64 a.v1, .int .u64 a.v2, .int .u64 a.v3, .int .u64 a.v4, .int .u64 a.v5, .int .u64 b.v0, .int .u64 b.v1, .int .u64 b.v2, .int .u64 b.v3, .int .u64 b.v4, .int .u64 b.v5] 24 (0, 0))) :
    Calls Try.prog 24 #[.slice (some ⟨g, 0, none⟩) 2 2] w fun e w' => e = .returned (.agg (vecA (Vec.map2 min a b))) ∧ Below w.heap.size w w' :=
  meet_any _ 2 [a, b] (g + 1) w (vrows_two h) (Blk.lt h) (Nat.le_refl _) (by decide)

theorem less_any (a b : Vec) (w : World) :
    Calls Try.prog 16 #[.agg (vecA a), .agg (vecA b)] w fun e w' => e = .returned (.bool (decide (Vec.map2 max a b = b))) ∧ Below w.heap.size w w' := by
  go_enter Try.func16, Try.ntmps16
  go_wp2_with fail
  go_region_held3 (fun w' => ((∀ i, w'.cell? ⟨w.heap.size, i, none⟩ = (vecA a)[i]?) ∧ (∀ i, w'.cell? ⟨w.heap.size + 1, i, none⟩ = (vecA b)[i]?)) ∧ Two w 24 (vecA a) (vecA b) w')
    (first | with_reducible exact Two.all Two.start.drew | with_reducible exact Two.all (Two.drew (Two.alloc (Two.undrew (And.right (by assumption))) _)) | with_reducible exact Two.all (Two.alloc (And.right (by assumption)) _) | with_reducible exact Two.all (Two.below (And.right (by assumption)) (by assumption)))
    (first | (go_at_call 22; refine (join_two _ a b _ ?h12).mono ?_; (case h12 => exact Blk.drew (Blk.new_at (by simp) rfl)); rintro e w' ⟨rfl, hb⟩))
  go_wp2
  go_ret
  exact ⟨rfl, (And.right (by assumption : _ ∧ Two w _ _ _ _)).2.2⟩

theorem vmay_any (v : Vec) (w : World) :
    Calls Try.prog 14 #[.agg (vecA v)] w fun e w' => e = .returned (.bool (decide (Vec.map2 max v (Vec.ofFn fun _ => 1099511627776) = Vec.ofFn fun _ => 1099511627776))) ∧ Below w.heap.size w w' := by
  go_enter Try.func14, Try.ntmps14
  go_wp2_with fail
  go_region_held3 (fun w' => (∀ b o, b < (w.alloc (.cells (vecA v) 24)).heap.size → w'.cell? ⟨b, o, none⟩ = (w.alloc (.cells (vecA v) 24)).cell? ⟨b, o, none⟩) ∧ Sb (w.alloc (.cells (vecA v) 24)) w')
    (first | with_reducible exact Sb.all Sb.start.drew | with_reducible exact Sb.all (Sb.below (And.right (by assumption)) (by assumption)))
    (first | (go_at_call 40; refine (each_any 41 [] (Vec.ofFn fun _ => 1099511627776) _ ?hG (Or.inr (Or.inl rfl))).mono ?_; (case hG => exact fun k hk w1 _ => (mayC_any k w1).mono fun _ _ ⟨h1, h2⟩ => ⟨by rw [h1, Vec.get_ofFn _ k hk], by rw [h2]; exact Below.refl _ _⟩); rintro e w' ⟨rfl, hb⟩)
           | (go_at_call 16; refine (less_any _ _ _).mono ?_; rintro e w' ⟨rfl, hb⟩))
  go_wp2
  go_ret
  exact ⟨rfl, ((Below.refl _ _).alloc (Nat.le_refl _) _).trans ((And.right (by assumption : _ ∧ Sb _ _)).mono (by simp))⟩

/-- Which vectors may be. -/
def vmayB (v : Vec) : Bool := decide (v.v0 ≤ 1099511627776 ∧ v.v1 ≤ 1099511627776 ∧ v.v2 ≤ 1099511627776 ∧ v.v3 ≤ 1099511627776 ∧ v.v4 ≤ 1099511627776 ∧ v.v5 ≤ 1099511627776)
/-- Which is less. -/
def vlessB (a b : Vec) : Bool := decide (a.v0 ≤ b.v0 ∧ a.v1 ≤ b.v1 ∧ a.v2 ≤ b.v2 ∧ a.v3 ≤ b.v3 ∧ a.v4 ≤ b.v4 ∧ a.v5 ≤ b.v5)
theorem vlessB_iff {a b : Vec} : vlessB a b = true ↔ ∀ k, k < 6 → a.get k ≤ b.get k := by
  unfold vlessB
  rw [decide_eq_true_eq]
  exact ⟨fun ⟨h0, h1, h2, h3, h4, h5⟩ => Vec.six (P := fun k => a.get k ≤ b.get k) h0 h1 h2 h3 h4 h5,
    fun h => ⟨h 0 (by omega), h 1 (by omega), h 2 (by omega), h 3 (by omega), h 4 (by omega), h 5 (by omega)⟩⟩
theorem max_eq_less (a b : Vec) : decide (Vec.map2 max a b = b) = vlessB a b := by
  rw [Bool.eq_iff_iff, vlessB_iff, decide_eq_true_eq]
  constructor
  · intro h k hk
    have := Vec.get_map2 max a b k hk
    rw [h] at this
    omega
  · intro h
    refine Vec.ext_get fun k hk => ?_
    rw [Vec.get_map2 max a b k hk]
    have := h k hk
    omega
theorem vmayB_eq (v : Vec) : vlessB v (Vec.ofFn fun _ => 1099511627776) = vmayB v := rfl
theorem vless (a b : Vec) (w : World) :
    Calls Try.prog 16 #[.agg (vecA a), .agg (vecA b)] w fun e w' => e = .returned (.bool (vlessB a b)) ∧ Below w.heap.size w w' := by
  rw [← max_eq_less]; exact less_any a b w
theorem vmay (v : Vec) (w : World) :
    Calls Try.prog 14 #[.agg (vecA v)] w fun e w' => e = .returned (.bool (vmayB v)) ∧ Below w.heap.size w w' := by
  rw [← vmayB_eq, ← max_eq_less]; exact vmay_any v w
end Go.Proofs.Ytgannlbhhanflaa
