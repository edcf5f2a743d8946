/-
  The walks of package vector: Has, Next, With, Lack.
-/
import Derived.Test.YtgannlbhhanflaaVecC
namespace Go.Proofs.Ytgannlbhhanflaa
set_option linter.unusedVariables false
set_option linter.unusedSimpArgs false
open Go.RowKit

/-- Is an event known? -/
def vhasB (v : Vec) (o s : Int) : Bool := regB o && (decide (0 < s) && decide (s ≤ v.get (o - 1).toNat))
theorem vhas (v : Vec) (o s : Int) (w : World) :
    Calls Try.prog 18 #[.agg (vecA v), .int .i64 o, .int .u64 s] w fun e w' => e = .returned (.bool (vhasB v o s)) ∧ Below w.heap.size w w' := by
  by_cases hr : regB o = true
  · obtain ⟨k, hk, rfl⟩ := regB_out hr
    have e1 : ((k : Int) + 1 - 1).toNat = k := by omega
    have hg := vecA_get v k hk
    by_cases hs : 0 < s
    · have hf : vhasB v (k + 1) s = decide (s ≤ v.get k) := by unfold vhasB; rw [hr, e1, decide_eq_true hs]; rfl
      have HF := Lib.hid hf
      clear hf hr e1
      go_enter Try.func18, Try.ntmps18
      go_wp2_with (go_at_call 38; refine (vregion_yes k hk _).mono ?_; rintro e w' ⟨rfl, rfl⟩)
      go_ret
      refine ⟨by rw [HF.out]; rfl, ?_⟩
      go_grown
    · have hf : vhasB v (k + 1) s = false := by unfold vhasB; rw [hr, decide_eq_false hs]; rfl
      have HF := Lib.hid hf
      clear hf hr e1
      go_enter Try.func18, Try.ntmps18
      go_wp2_with (go_at_call 38; refine (vregion_yes k hk _).mono ?_; rintro e w' ⟨rfl, rfl⟩)
      go_ret
      refine ⟨by rw [HF.out]; rfl, ?_⟩
      go_grown
  · have hr' : regB o = false := by simpa using hr
    have hf : vhasB v o s = false := by unfold vhasB; rw [hr']; rfl
    have HF := Lib.hid hf
    have HR := Lib.hid hr'
    clear hf hr hr'
    go_enter Try.func18, Try.ntmps18
    go_wp2_with (go_at_call 38; refine (vregion_no o HR.out _).mono ?_; rintro e w' ⟨rfl, rfl⟩)
    go_ret
    refine ⟨by rw [HF.out]; rfl, ?_⟩
    go_grown

/-- What comes next. -/
def vnext (v : Vec) (o : Int) : Int × Int :=
  if regB o = true then (if 1099511627776 ≤ v.get (o - 1).toNat then (0, 6) else (v.get (o - 1).toNat + 1, 0)) else (0, 10)
theorem vnext_any (v : Vec) (hv : v.ok) (o : Int) (w : World) :
    Calls Try.prog 10 #[.agg (vecA v), .int .i64 o] w fun e w' => e = .returned (.tuple #[.int .u64 (vnext v o).1, .int .i64 (vnext v o).2]) ∧ Below w.heap.size w w' := by
  by_cases hr : regB o = true
  · obtain ⟨k, hk, rfl⟩ := regB_out hr
    have e1 : ((k : Int) + 1 - 1).toNat = k := by omega
    have hg := vecA_get v k hk
    obtain ⟨b0, b1⟩ := hv k hk
    by_cases hs : 1099511627776 ≤ v.get k
    · have hf : vnext v (k + 1) = (0, 6) := by unfold vnext; rw [if_pos hr, e1, if_pos hs]
      have HF := Lib.hid hf
      clear hf hr e1
      go_enter Try.func10, Try.ntmps10
      go_wp2_with (go_at_call 38; refine (vregion_yes k hk _).mono ?_; rintro e w' ⟨rfl, rfl⟩)
      go_ret2
      refine ⟨by rw [HF.out]; rfl, ?_⟩
      go_grown
    · have hf : vnext v (k + 1) = (v.get k + 1, 0) := by unfold vnext; rw [if_pos hr, e1, if_neg hs]
      have HF := Lib.hid hf
      clear hf hr e1
      go_enter Try.func10, Try.ntmps10
      go_wp2_with (go_at_call 38; refine (vregion_yes k hk _).mono ?_; rintro e w' ⟨rfl, rfl⟩)
      go_ret2
      refine ⟨by rw [HF.out]; simp, ?_⟩
      go_grown
  · have hr' : regB o = false := by simpa using hr
    have hf : vnext v o = (0, 10) := by unfold vnext; rw [if_neg hr]
    have HF := Lib.hid hf
    have HR := Lib.hid hr'
    clear hf hr hr'
    go_enter Try.func10, Try.ntmps10
    go_wp2_with (go_at_call 38; refine (vregion_no o HR.out _).mono ?_; rintro e w' ⟨rfl, rfl⟩)
    go_ret2
    refine ⟨by rw [HF.out]; rfl, ?_⟩
    go_grown

/-- A vector with another number. -/
def vwith (v : Vec) (o s : Int) : Vec × Int :=
  if regB o = true then (if 1099511627776 < s then (Vec.zero, 1) else (v.set (o - 1).toNat s, 0)) else (Vec.zero, 10)
theorem vwith_any (v : Vec) (o s : Int) (w : World) :
    Calls Try.prog 12 #[.agg (vecA v), .int .i64 o, .int .u64 s] w fun e w' => e = .returned (.tuple #[.agg (vecA (vwith v o s).1), .int .i64 (vwith v o s).2]) ∧ Below w.heap.size w w' := by
  by_cases hr : regB o = true
  · obtain ⟨k, hk, rfl⟩ := regB_out hr
    have e1 : ((k : Int) + 1 - 1).toNat = k := by omega
    have hst := vecA_set v k s hk
    have hg := vecA_get v k hk
    by_cases hs : 1099511627776 < s
    · have hf : vwith v (k + 1) s = (Vec.zero, 1) := by unfold vwith; rw [if_pos hr, if_pos hs]
      have HF := Lib.hid hf
      clear hf hr e1
      go_enter Try.func12, Try.ntmps12
      go_wp2_with (go_at_call 38; refine (vregion_yes k hk _).mono ?_; rintro e w' ⟨rfl, rfl⟩)
      go_returns
      refine ⟨by rw [HF.out], ?_⟩
      go_grown
    · have hf : vwith v (k + 1) s = (v.set k s, 0) := by unfold vwith; rw [if_pos hr, e1, if_neg hs]
      have HF := Lib.hid hf
      clear hf hr e1
      go_enter Try.func12, Try.ntmps12
      go_wp2_with (go_at_call 38; refine (vregion_yes k hk _).mono ?_; rintro e w' ⟨rfl, rfl⟩)
      go_returns
      refine ⟨by rw [HF.out], ?_⟩
      go_grown
  · have hr' : regB o = false := by simpa using hr
    have hf : vwith v o s = (Vec.zero, 10) := by unfold vwith; rw [if_neg hr]
    have HF := Lib.hid hf
    have HR := Lib.hid hr'
    clear hf hr hr'
    go_enter Try.func12, Try.ntmps12
    go_wp2_with (go_at_call 38; refine (vregion_no o HR.out _).mono ?_; rintro e w' ⟨rfl, rfl⟩)
    go_returns
    refine ⟨by rw [HF.out], ?_⟩
    go_grown

/-- How much more. -/
def lackOf (x y : Int) : Int := if x < y then y - x else 0
def lackSum (a b : Vec) : Nat → Int
  | 0 => 0
  | k + 1 => (lackSum a b k + lackOf (a.get k) (b.get k)) % 18446744073709551616
def vlack (a b : Vec) : Int := lackSum a b 6
theorem lackSum_range (a b : Vec) (k : Nat) : 0 ≤ lackSum a b k ∧ lackSum a b k < 18446744073709551616 := by
  cases k with
  | zero => simp [lackSum]
  | succ k => simp only [lackSum]; omega
/-- What the model's own Sub64 gives. -/
def subD (x y : Int) : Int := ((x.toNat + 18446744073709551616 - y.toNat) % 18446744073709551616 : Nat)
def subB (x y : Int) : Int := if x.toNat < y.toNat then 1 else 0
def sub64Entry : Array Value → Sem Value := fun args => do
  let (x, y, b) ← Extern.MathBitsCarry.three "Sub64" args
  pure (Extern.MathBitsCarry.pair ((x + Extern.MathBitsCarry.m64 - y - b) % Extern.MathBitsCarry.m64) (if x < y + b then 1 else 0))
@[go_sem] theorem run_sub64 (x y : Int) (w : World) : (callFunc 42 #[.int .u64 x, .int .u64 y, .int .u64 0]).run Try.prog w = .ok (.value (.tuple #[.int .u64 (subD x y), .int .u64 (subB x y)])) w := by
  rw [run_callFunc_extern (fn := Try.f42) (by kernel_rfl) (by kernel_rfl) (by kernel_rfl) (by kernel_rfl) (e := sub64Entry) (by kernel_rfl)]
  have h : (sub64Entry #[.int .u64 x, .int .u64 y, .int .u64 0]).run Try.prog w = .ok (Extern.MathBitsCarry.pair ((x.toNat + Extern.MathBitsCarry.m64 - y.toNat - 0) % Extern.MathBitsCarry.m64) (if x.toNat < y.toNat + 0 then 1 else 0)) w := rfl
  rw [h]
  simp only [Result.andThen, Extern.MathBitsCarry.pair, Extern.MathBitsCarry.m64, Nat.sub_zero, Nat.add_zero, subD, subB]
  congr 5
  split <;> rfl
theorem run_index_vec (a : Vec) (k : Nat) (h : k < 6) (w : World) : (Instr.index 24 (.agg (vecA a)) (.int .i64 (k : Int))).run Try.prog w = .ok (.int .u64 (a.get k)) w :=
  Vec.six (P := fun k => (Instr.index 24 (.agg (vecA a)) (.int .i64 (k : Int))).run Try.prog w = .ok (.int .u64 (a.get k)) w) (by kernel_rfl) (by kernel_rfl) (by kernel_rfl) (by kernel_rfl) (by kernel_rfl) (by kernel_rfl) k h
theorem lackSum_yes (a b : Vec) (k : Nat) (_h0 : 0 ≤ a.get k) (h1 : a.get k ≤ b.get k) (h2 : b.get k ≤ 18446744073709551615) : lackSum a b (k + 1) = (lackSum a b k + subD (b.get k) (a.get k)) % 18446744073709551616 := by
  simp only [lackSum, lackOf, subD]
  split <;> omega
theorem lackSum_no (a b : Vec) (k : Nat) (h0 : 0 ≤ b.get k) (h1 : b.get k < a.get k) : lackSum a b (k + 1) = lackSum a b k := by
  have := lackSum_range a b k
  simp only [lackSum, lackOf]
  split <;> omega
theorem subB_yes (x y : Int) (h : y ≤ x) : subB x y = 0 := by unfold subB; split <;> omega
theorem subB_no (x y : Int) (h0 : 0 ≤ x) (h : x < y) : subB x y = 1 := by unfold subB; split <;> omega

set_option maxHeartbeats 400000 in
theorem vlack_any (a b : Vec) (ha : a.ok) (hb : b.ok) (w : World) :
    Calls Try.prog 20 #[.agg (vecA a), .agg (vecA b)] w fun e w' => e = .returned (.int .u64 (vlack a b)) ∧ Below w.heap.size w w' := by
  go_enter Try.func20, Try.ntmps20
  go_wp2_with fail
  go_loop [4, 10] (fun n i => ∃ k : Nat, k ≤ 6 ∧ i = .int .i64 k ∧ n = .int .u64 (lackSum a b k)) (fun _ i => 6 - (intOf i).toNat)
  case atStart => exact ⟨0, by omega, rfl, rfl⟩
  case round =>
    obtain ⟨k, hk, rfl, rfl⟩ := hrel
    by_cases hlt : k < 6
    · obtain ⟨a0, a1⟩ := ha k hlt
      obtain ⟨b0, b1⟩ := hb k hlt
      have ga := run_index_vec a k hlt
      have gb := vecA_get b k hlt
      by_cases hle : a.get k ≤ b.get k
      · have HL := Lib.hid (lackSum_yes a b k a0 hle b1)
        have hB : (subB (b.get k) (a.get k) == 0) = true := by rw [subB_yes _ _ hle]; rfl
        go_wp2
        go_round
        case rel => exact ⟨k + 1, by omega, by go_num, by rw [HL.out]; simp [IntKind.wrap_u64]⟩
        case measure => simp [intOf]; omega
      · have HL := Lib.hid (lackSum_no a b k b0 (by omega))
        have hB : (subB (b.get k) (a.get k) == 0) = false := by rw [subB_no _ _ b0 (by omega)]; rfl
        go_wp2
        go_round
        case rel => exact ⟨k + 1, by omega, by go_num, by rw [HL.out]⟩
        case measure => simp [intOf]; omega
    · obtain rfl : k = 6 := by omega
      go_wp2
      go_ret
      refine ⟨rfl, ?_⟩
      go_grown
end Go.Proofs.Ytgannlbhhanflaa
