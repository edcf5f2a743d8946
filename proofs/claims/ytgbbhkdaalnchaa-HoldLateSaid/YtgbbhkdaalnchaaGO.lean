/-
  The walks of package vector: Join, Meet, Less, May.
  The walks of package vector: Has, Next, With, Lack.
-/
import Derived.Test.YtgbbhkdaalnchaaVecB
namespace Go.Proofs.Ytgbbhkdaalnchaa
set_option linter.unusedVariables false
set_option linter.unusedSimpArgs false
open Go.RowKit

theorem info_u64 : (Try.prog.info? 28).map (fun i => i.size) = some 1 := by kernel_rfl
@[go_sem] theorem eqIn_vec (w : World) (d : Nat) (a b : Vec) : (Op.equalIn (d + 2) 30 (.agg (vecA a)) (.agg (vecA b))).run Try.prog w = .ok (decide (a = b)) w := by
  cases hi : Try.prog.info? 28 with
  | none => have h := info_u64; rw [hi] at h; cases h
  | some i =>
    have h := info_u64
    rw [hi] at h
    exact run_equalIn_vec w d _ 28 i a b Try.underlying30 Try.underlying28 hi (by simpa using h)

section
variable (ρ : Operand → Value) (dst : Option Tmp) (x y : Operand) (ty : TypeId) (pos : String) (after : Array Edge) (guard : Option (Nat × Bool))
@[go_sem ↓] theorem execOp_bs1_vec : execOp ρ { dst, op := .buildSlice 74 1 #[(0, x)], type := ty, pos, after, guard } = bs1 74 (ρ x) := by simp [execOp, bs1]
@[go_sem ↓] theorem execOp_bs2_vec : execOp ρ { dst, op := .buildSlice 74 2 #[(0, x), (1, y)], type := ty, pos, after, guard } = bs2 74 (ρ x) (ρ y) := by simp [execOp, bs2]
end
@[go_sem] theorem run_bs1_vec (a : Vec) (w : World) : (bs1 74 (.agg (vecA a))).run Try.prog w = .ok (.value (.slice (some ⟨w.heap.size, 0, none⟩) 1 1)) (w.alloc (.cells (vecA a) 30)) := by kernel_rfl
@[go_sem] theorem run_bs2_vec (a b : Vec) (w : World) : (bs2 74 (.agg (vecA a)) (.agg (vecA b))).run Try.prog w = .ok (.value (.slice (some ⟨w.heap.size, 0, none⟩) 2 2))
    (w.alloc (.cells #[.int .u64 a.v0, .int .u64 a.v1, .int .u64 a.v2, .int .u64 a.v3, .int .u64 a.v4, .int .u64 a.v5, .int .u64 b.v0, .int .u64 b.v1, .int .u64 b.v2, .int .u64 b.v3, .int .u64 b.v4, .int .u64 b.v5] 30)) := by kernel_rfl

theorem join_any (A : Option Addr) (cap : Nat) (L : List Vec) (B : Nat) (w : World) (hL : VRows w B A L) (hB : B ≤ w.heap.size) (hn : L.length ≤ cap) (hcap : cap ≤ maxLen) :
    Calls Try.prog 36 #[.slice A L.length cap] w fun e w' => e = .returned (.agg (vecA (Vec.foldV max L))) ∧ Below w.heap.size w w' := by
  go_enter Try.func36, Try.ntmps36
  go_wp2_with fail
  refine (fold_any _ max (Or.inl ⟨rfl, rfl⟩) A cap L B _ (hL.below ((Below.refl _ _).alloc hB _)) (by simp; omega) hn hcap).mono ?_
  rintro e w1 ⟨rfl, hb1⟩
  have hv1 := (Blk.new w 30 (vecA Vec.zero)).below hb1 (Blk.new _ _ _).lt
  obtain ⟨hr1, hr2⟩ := hv1.rules
  go_wp2
  refine bodyPost_ret (v := .agg (vecA (Vec.foldV max L))) (by simp [results, Try.results36, go_sem, hr1]) rfl ⟨rfl, ?_⟩
  exact below_setVec (((Below.refl _ _).alloc (Nat.le_refl _) _).trans (hb1.mono (by simp))) (by omega) _
theorem meet_any (A : Option Addr) (cap : Nat) (L : List Vec) (B : Nat) (w : World) (hL : VRows w B A L) (hB : B ≤ w.heap.size) (hn : L.length ≤ cap) (hcap : cap ≤ maxLen) :
    Calls Try.prog 38 #[.slice A L.length cap] w fun e w' => e = .returned (.agg (vecA (Vec.foldV min L))) ∧ Below w.heap.size w w' := by
  go_enter Try.func38, Try.ntmps38
  go_wp2_with fail
  refine (fold_any _ min (Or.inr ⟨rfl, rfl⟩) A cap L B _ (hL.below ((Below.refl _ _).alloc hB _)) (by simp; omega) hn hcap).mono ?_
  rintro e w1 ⟨rfl, hb1⟩
  have hv1 := (Blk.new w 30 (vecA Vec.zero)).below hb1 (Blk.new _ _ _).lt
  obtain ⟨hr1, hr2⟩ := hv1.rules
  go_wp2
  refine bodyPost_ret (v := .agg (vecA (Vec.foldV min L))) (by simp [results, Try.results38, go_sem, hr1]) rfl ⟨rfl, ?_⟩
  exact below_setVec (((Below.refl _ _).alloc (Nat.le_refl _) _).trans (hb1.mono (by simp))) (by omega) _

theorem foldV_two (c : Int → Int → Int) (a b : Vec) : Vec.foldV c [a, b] = Vec.map2 c a b := rfl
theorem join_two (g : Nat) (a b : Vec) (w : World) (h : w.heap[g]? = some (.cells #[.int .u64 a.v0, .int .u64 a.v1, .int .u64 a.v2, .int .u64 a.v3, .int .u64 a.v4, .int .u64 a.v5, .int .u64 b.v0, .int .u64 b.v1, .int .u64 b.v2, .int .u64 b.v3, .int .u64 b.v4, .int .u64 b.v5] 30 (0, 0))) :
    Calls Try.prog 36 #[.slice (some ⟨g, 0, none⟩) 2 2] w fun e w' => e = .returned (.agg (vecA (Vec.map2 max a b))) ∧ Below w.heap.size w w' :=
  join_any _ 2 [a, b] (g + 1) w (vrows_two h) (Blk.lt h) (Nat.le_refl _) (by decide)
theorem meet_two (g : Nat) (a b : Vec) (w : World) (h : w.heap[g]? = some (.cells #[.int .u64 a.v0, .int .u64 a.v1, .int .u64 a.v2, .int .u64 a.v3, .int .u64 a.v4, .int .u64 a.v5, .int .u64 b.v0, .int .u64 b.v1, .int .u64 b.v2, .int .u64 b.v3, .int .u64 b.v4, .int .u64 b.v5] 30 (0, 0))) :
    Calls Try.prog 38 #[.slice (some ⟨g, 0, none⟩) 2 2] w fun e w' => e = .returned (.agg (vecA (Vec.map2 min a b))) ∧ Below w.heap.size w w' :=
  meet_any _ 2 [a, b] (g + 1) w (vrows_two h) (Blk.lt h) (Nat.le_refl _) (by decide)

theorem less_any (a b : Vec) (w : World) :
    Calls Try.prog 30 #[.agg (vecA a), .agg (vecA b)] w fun e w' => e = .returned (.bool (decide (Vec.map2 max a b = b))) ∧ Below w.heap.size w w' := by
  go_enter Try.func30, Try.ntmps30
  go_wp2_with fail
  go_region_held3 (fun w' => ((∀ i, w'.cell? ⟨w.heap.size, i, none⟩ = (vecA a)[i]?) ∧ (∀ i, w'.cell? ⟨w.heap.size + 1, i, none⟩ = (vecA b)[i]?)) ∧ Two w 30 (vecA a) (vecA b) w')
    (first | with_reducible exact Two.all Two.start.drew | with_reducible exact Two.all (Two.drew (Two.alloc (Two.undrew (And.right (by assumption))) _)) | with_reducible exact Two.all (Two.alloc (And.right (by assumption)) _) | with_reducible exact Two.all (Two.below (And.right (by assumption)) (by assumption)))
    (first | (go_at_call 36; refine (join_two _ a b _ ?h12).mono ?_; (case h12 => exact Blk.drew (Blk.new_at (by simp) rfl)); rintro e w' ⟨rfl, hb⟩))
  go_wp2
  go_ret
  exact ⟨rfl, (And.right (by assumption : _ ∧ Two w _ _ _ _)).2.2⟩

theorem vmay_any (v : Vec) (w : World) :
    Calls Try.prog 29 #[.agg (vecA v)] w fun e w' => e = .returned (.bool (decide (Vec.map2 max v (Vec.ofFn fun _ => 1099511627776) = Vec.ofFn fun _ => 1099511627776))) ∧ Below w.heap.size w w' := by
  go_enter Try.func29, Try.ntmps29
  go_wp2_with fail
  go_region_held3 (fun w' => (∀ b o, b < (w.alloc (.cells (vecA v) 30)).heap.size → w'.cell? ⟨b, o, none⟩ = (w.alloc (.cells (vecA v) 30)).cell? ⟨b, o, none⟩) ∧ Sb (w.alloc (.cells (vecA v) 30)) w')
    (first | with_reducible exact Sb.all Sb.start.drew | with_reducible exact Sb.all (Sb.below (And.right (by assumption)) (by assumption)))
    (first | (go_at_call 51; refine (each_any 55 [] (Vec.ofFn fun _ => 1099511627776) _ ?hG (Or.inr (Or.inl rfl))).mono ?_; (case hG => exact fun k hk w1 _ => (mayC_any k w1).mono fun _ _ ⟨h1, h2⟩ => ⟨by rw [h1, Vec.get_ofFn _ k hk], by rw [h2]; exact Below.refl _ _⟩); rintro e w' ⟨rfl, hb⟩)
           | (go_at_call 30; refine (less_any _ _ _).mono ?_; rintro e w' ⟨rfl, hb⟩))
  go_wp2
  go_ret
  exact ⟨rfl, ((Below.refl _ _).alloc (Nat.le_refl _) _).trans ((And.right (by assumption : _ ∧ Sb _ _)).mono (by simp))⟩

/-- Which vectors may be. -/
def vmayB (v : Vec) : Bool := decide (v.v0 ≤ 1099511627776 ∧ v.v1 ≤ 1099511627776 ∧ v.v2 ≤ 1099511627776 ∧ v.v3 ≤ 1099511627776 ∧ v.v4 ≤ 1099511627776 ∧ v.v5 ≤ 1099511627776)
/-- Which is less. -/
def vlessB (a b : Vec) : Bool := decide (a.v0 ≤ b.v0 ∧ a.v1 ≤ b.v1 ∧ a.v2 ≤ b.v2 ∧ a.v3 ≤ b.v3 ∧ a.v4 ≤ b.v4 ∧ a.v5 ≤ b.v5)
theorem vlessB_iff {a b : Vec} : vlessB a b = true ↔ ∀ k, k < 6 → a.get k ≤ b.get k := by
  unfold vlessB
  rw [decide_eq_true_eq]
  exact ⟨fun ⟨h0, h1, h2, h3, h4, h5⟩ => Vec.six (P := fun k => a.get k ≤ b.get k) h0 h1 h2 h3 h4 h5,
    fun h => ⟨h 0 (by omega), h 1 (by omega), h 2 (by omega), h 3 (by omega), h 4 (by omega), h 5 (by omega)⟩⟩
theorem max_eq_less (a b : Vec) : decide (Vec.map2 max a b = b) = vlessB a b := by
  rw [Bool.eq_iff_iff, vlessB_iff, decide_eq_true_eq]
  constructor
  · intro h k hk
    have := Vec.get_map2 max a b k hk
    rw [h] at this
    omega
  · intro h
    refine Vec.ext_get fun k hk => ?_
    rw [Vec.get_map2 max a b k hk]
    have := h k hk
    omega
theorem vmayB_eq (v : Vec) : vlessB v (Vec.ofFn fun _ => 1099511627776) = vmayB v := rfl
theorem vless (a b : Vec) (w : World) :
    Calls Try.prog 30 #[.agg (vecA a), .agg (vecA b)] w fun e w' => e = .returned (.bool (vlessB a b)) ∧ Below w.heap.size w w' := by
  rw [← max_eq_less]; exact less_any a b w
theorem vmay (v : Vec) (w : World) :
    Calls Try.prog 29 #[.agg (vecA v)] w fun e w' => e = .returned (.bool (vmayB v)) ∧ Below w.heap.size w w' := by
  rw [← vmayB_eq, ← max_eq_less]; exact vmay_any v w
end Go.Proofs.Ytgbbhkdaalnchaa
namespace Go.Proofs.Ytgbbhkdaalnchaa
set_option linter.unusedVariables false
set_option linter.unusedSimpArgs false
open Go.RowKit

/-- Is an event known? -/
def vhasB (v : Vec) (o s : Int) : Bool := regB o && (decide (0 < s) && decide (s ≤ v.get (o - 1).toNat))
theorem vhas (v : Vec) (o s : Int) (w : World) :
    Calls Try.prog 32 #[.agg (vecA v), .int .i64 o, .int .u64 s] w fun e w' => e = .returned (.bool (vhasB v o s)) ∧ Below w.heap.size w w' := by
  by_cases hr : regB o = true
  · obtain ⟨k, hk, rfl⟩ := regB_out hr
    have e1 : ((k : Int) + 1 - 1).toNat = k := by omega
    have hg := vecA_get v k hk
    by_cases hs : 0 < s
    · have hf : vhasB v (k + 1) s = decide (s ≤ v.get k) := by unfold vhasB; rw [hr, e1, decide_eq_true hs]; rfl
      have HF := Lib.hid hf
      clear hf hr e1
      go_enter Try.func32, Try.ntmps32
      go_wp2_with (go_at_call 53; refine (vregion_yes k hk _).mono ?_; rintro e w' ⟨rfl, rfl⟩)
      go_ret
      refine ⟨by rw [HF.out]; rfl, ?_⟩
      go_grown
    · have hf : vhasB v (k + 1) s = false := by unfold vhasB; rw [hr, decide_eq_false hs]; rfl
      have HF := Lib.hid hf
      clear hf hr e1
      go_enter Try.func32, Try.ntmps32
      go_wp2_with (go_at_call 53; refine (vregion_yes k hk _).mono ?_; rintro e w' ⟨rfl, rfl⟩)
      go_ret
      refine ⟨by rw [HF.out]; rfl, ?_⟩
      go_grown
  · have hr' : regB o = false := by simpa using hr
    have hf : vhasB v o s = false := by unfold vhasB; rw [hr']; rfl
    have HF := Lib.hid hf
    have HR := Lib.hid hr'
    clear hf hr hr'
    go_enter Try.func32, Try.ntmps32
    go_wp2_with (go_at_call 53; refine (vregion_no o HR.out _).mono ?_; rintro e w' ⟨rfl, rfl⟩)
    go_ret
    refine ⟨by rw [HF.out]; rfl, ?_⟩
    go_grown

/-- What comes next. -/
def vnext (v : Vec) (o : Int) : Int × Int :=
  if regB o = true then (if 1099511627776 ≤ v.get (o - 1).toNat then (0, 6) else (v.get (o - 1).toNat + 1, 0)) else (0, 10)
theorem vnext_any (v : Vec) (hv : v.ok) (o : Int) (w : World) :
    Calls Try.prog 25 #[.agg (vecA v), .int .i64 o] w fun e w' => e = .returned (.tuple #[.int .u64 (vnext v o).1, .int .i64 (vnext v o).2]) ∧ Below w.heap.size w w' := by
  by_cases hr : regB o = true
  · obtain ⟨k, hk, rfl⟩ := regB_out hr
    have e1 : ((k : Int) + 1 - 1).toNat = k := by omega
    have hg := vecA_get v k hk
    obtain ⟨b0, b1⟩ := hv k hk
    by_cases hs : 1099511627776 ≤ v.get k
    · have hf : vnext v (k + 1) = (0, 6) := by unfold vnext; rw [if_pos hr, e1, if_pos hs]
      have HF := Lib.hid hf
      clear hf hr e1
      go_enter Try.func25, Try.ntmps25
      go_wp2_with (go_at_call 53; refine (vregion_yes k hk _).mono ?_; rintro e w' ⟨rfl, rfl⟩)
      go_ret2
      refine ⟨by rw [HF.out]; rfl, ?_⟩
      go_grown
    · have hf : vnext v (k + 1) = (v.get k + 1, 0) := by unfold vnext; rw [if_pos hr, e1, if_neg hs]
      have HF := Lib.hid hf
      clear hf hr e1
      go_enter Try.func25, Try.ntmps25
      go_wp2_with (go_at_call 53; refine (vregion_yes k hk _).mono ?_; rintro e w' ⟨rfl, rfl⟩)
      go_ret2
      refine ⟨by rw [HF.out]; simp, ?_⟩
      go_grown
  · have hr' : regB o = false := by simpa using hr
    have hf : vnext v o = (0, 10) := by unfold vnext; rw [if_neg hr]
    have HF := Lib.hid hf
    have HR := Lib.hid hr'
    clear hf hr hr'
    go_enter Try.func25, Try.ntmps25
    go_wp2_with (go_at_call 53; refine (vregion_no o HR.out _).mono ?_; rintro e w' ⟨rfl, rfl⟩)
    go_ret2
    refine ⟨by rw [HF.out]; rfl, ?_⟩
    go_grown

/-- A vector with another number. -/
def vwith (v : Vec) (o s : Int) : Vec × Int :=
  if regB o = true then (if 1099511627776 < s then (Vec.zero, 1) else (v.set (o - 1).toNat s, 0)) else (Vec.zero, 10)
theorem vwith_any (v : Vec) (o s : Int) (w : World) :
    Calls Try.prog 27 #[.agg (vecA v), .int .i64 o, .int .u64 s] w fun e w' => e = .returned (.tuple #[.agg (vecA (vwith v o s).1), .int .i64 (vwith v o s).2]) ∧ Below w.heap.size w w' := by
  by_cases hr : regB o = true
  · obtain ⟨k, hk, rfl⟩ := regB_out hr
    have e1 : ((k : Int) + 1 - 1).toNat = k := by omega
    have hst := vecA_set v k s hk
    have hg := vecA_get v k hk
    by_cases hs : 1099511627776 < s
    · have hf : vwith v (k + 1) s = (Vec.zero, 1) := by unfold vwith; rw [if_pos hr, if_pos hs]
      have HF := Lib.hid hf
      clear hf hr e1
      go_enter Try.func27, Try.ntmps27
      go_wp2_with (go_at_call 53; refine (vregion_yes k hk _).mono ?_; rintro e w' ⟨rfl, rfl⟩)
      go_returns
      refine ⟨by rw [HF.out], ?_⟩
      go_grown
    · have hf : vwith v (k + 1) s = (v.set k s, 0) := by unfold vwith; rw [if_pos hr, e1, if_neg hs]
      have HF := Lib.hid hf
      clear hf hr e1
      go_enter Try.func27, Try.ntmps27
      go_wp2_with (go_at_call 53; refine (vregion_yes k hk _).mono ?_; rintro e w' ⟨rfl, rfl⟩)
      go_returns
      refine ⟨by rw [HF.out], ?_⟩
      go_grown
  · have hr' : regB o = false := by simpa using hr
    have hf : vwith v o s = (Vec.zero, 10) := by unfold vwith; rw [if_neg hr]
    have HF := Lib.hid hf
    have HR := Lib.hid hr'
    clear hf hr hr'
    go_enter Try.func27, Try.ntmps27
    go_wp2_with (go_at_call 53; refine (vregion_no o HR.out _).mono ?_; rintro e w' ⟨rfl, rfl⟩)
    go_returns
    refine ⟨by rw [HF.out], ?_⟩
    go_grown

/-- How much more. -/
def lackOf (x y : Int) : Int := if x < y then y - x else 0
def lackSum (a b : Vec) : Nat → Int
  | 0 => 0
  | k + 1 => (lackSum a b k + lackOf (a.get k) (b.get k)) % 18446744073709551616
def vlack (a b : Vec) : Int := lackSum a b 6
theorem lackSum_range (a b : Vec) (k : Nat) : 0 ≤ lackSum a b k ∧ lackSum a b k < 18446744073709551616 := by
  cases k with
  | zero => simp [lackSum]
  | succ k => simp only [lackSum]; omega
/-- What the model's own Sub64 gives. -/
def subD (x y : Int) : Int := ((x.toNat + 18446744073709551616 - y.toNat) % 18446744073709551616 : Nat)
def subB (x y : Int) : Int := if x.toNat < y.toNat then 1 else 0
def sub64Entry : Array Value → Sem Value := fun args => do
  let (x, y, b) ← Extern.MathBitsCarry.three "Sub64" args
  pure (Extern.MathBitsCarry.pair ((x + Extern.MathBitsCarry.m64 - y - b) % Extern.MathBitsCarry.m64) (if x < y + b then 1 else 0))
@[go_sem] theorem run_sub64 (x y : Int) (w : World) : (callFunc 56 #[.int .u64 x, .int .u64 y, .int .u64 0]).run Try.prog w = .ok (.value (.tuple #[.int .u64 (subD x y), .int .u64 (subB x y)])) w := by
  rw [run_callFunc_extern (fn := Try.f56) (by kernel_rfl) (by kernel_rfl) (by kernel_rfl) (by kernel_rfl) (e := sub64Entry) (by kernel_rfl)]
  have h : (sub64Entry #[.int .u64 x, .int .u64 y, .int .u64 0]).run Try.prog w = .ok (Extern.MathBitsCarry.pair ((x.toNat + Extern.MathBitsCarry.m64 - y.toNat - 0) % Extern.MathBitsCarry.m64) (if x.toNat < y.toNat + 0 then 1 else 0)) w := rfl
  rw [h]
  simp only [Result.andThen, Extern.MathBitsCarry.pair, Extern.MathBitsCarry.m64, Nat.sub_zero, Nat.add_zero, subD, subB]
  congr 5
  split <;> rfl
theorem run_index_vec (a : Vec) (k : Nat) (h : k < 6) (w : World) : (Instr.index 30 (.agg (vecA a)) (.int .i64 (k : Int))).run Try.prog w = .ok (.int .u64 (a.get k)) w :=
  Vec.six (P := fun k => (Instr.index 30 (.agg (vecA a)) (.int .i64 (k : Int))).run Try.prog w = .ok (.int .u64 (a.get k)) w) (by kernel_rfl) (by kernel_rfl) (by kernel_rfl) (by kernel_rfl) (by kernel_rfl) (by kernel_rfl) k h
theorem lackSum_yes (a b : Vec) (k : Nat) (_h0 : 0 ≤ a.get k) (h1 : a.get k ≤ b.get k) (h2 : b.get k ≤ 18446744073709551615) : lackSum a b (k + 1) = (lackSum a b k + subD (b.get k) (a.get k)) % 18446744073709551616 := by
  simp only [lackSum, lackOf, subD]
  split <;> omega
theorem lackSum_no (a b : Vec) (k : Nat) (h0 : 0 ≤ b.get k) (h1 : b.get k < a.get k) : lackSum a b (k + 1) = lackSum a b k := by
  have := lackSum_range a b k
  simp only [lackSum, lackOf]
  split <;> omega
theorem subB_yes (x y : Int) (h : y ≤ x) : subB x y = 0 := by unfold subB; split <;> omega
theorem subB_no (x y : Int) (h0 : 0 ≤ x) (h : x < y) : subB x y = 1 := by unfold subB; split <;> omega

set_option maxHeartbeats 400000 in
theorem vlack_any (a b : Vec) (ha : a.ok) (hb : b.ok) (w : World) :
    Calls Try.prog 34 #[.agg (vecA a), .agg (vecA b)] w fun e w' => e = .returned (.int .u64 (vlack a b)) ∧ Below w.heap.size w w' := by
  go_enter Try.func34, Try.ntmps34
  go_wp2_with fail
  go_loop [4, 10] (fun n i => ∃ k : Nat, k ≤ 6 ∧ i = .int .i64 k ∧ n = .int .u64 (lackSum a b k)) (fun _ i => 6 - (intOf i).toNat)
  case atStart => exact ⟨0, by omega, rfl, rfl⟩
  case round =>
    obtain ⟨k, hk, rfl, rfl⟩ := hrel
    by_cases hlt : k < 6
    · obtain ⟨a0, a1⟩ := ha k hlt
      obtain ⟨b0, b1⟩ := hb k hlt
      have ga := run_index_vec a k hlt
      have gb := vecA_get b k hlt
      by_cases hle : a.get k ≤ b.get k
      · have HL := Lib.hid (lackSum_yes a b k a0 hle b1)
        have hB : (subB (b.get k) (a.get k) == 0) = true := by rw [subB_yes _ _ hle]; rfl
        go_wp2
        go_round
        case rel => exact ⟨k + 1, by omega, by go_num, by rw [HL.out]; simp [IntKind.wrap_u64]⟩
        case measure => simp [intOf]; omega
      · have HL := Lib.hid (lackSum_no a b k b0 (by omega))
        have hB : (subB (b.get k) (a.get k) == 0) = false := by rw [subB_no _ _ b0 (by omega)]; rfl
        go_wp2
        go_round
        case rel => exact ⟨k + 1, by omega, by go_num, by rw [HL.out]⟩
        case measure => simp [intOf]; omega
    · obtain rfl : k = 6 := by omega
      go_wp2
      go_ret
      refine ⟨rfl, ?_⟩
      go_grown
end Go.Proofs.Ytgbbhkdaalnchaa
