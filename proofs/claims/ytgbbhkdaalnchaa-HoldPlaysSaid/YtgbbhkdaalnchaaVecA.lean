/-
  The walks of package vector's inner functions: which region is one, the choosing closures, 'each'.
-/
import Derived.Test.YtgbbhkdaalnchaaProg
import Derived.Test.YtgbbhkdaalnchaaGA
import Derived.WalkSpells
import Derived.WalkLawsBesides
import Derived.BigQuiet
import Derived.Deep.QuietTactic
import Derived.Deep.RegionHeld3
namespace Go.Proofs.Ytgbbhkdaalnchaa
set_option linter.unusedVariables false
set_option linter.unusedSimpArgs false
open Go.RowKit

def regB (k : Int) : Bool := decide (1 ≤ k) && decide (k ≤ 6)
theorem regB_yes (k : Nat) (h : k < 6) : regB ((k : Int) + 1) = true := by simp [regB]; omega
theorem regB_out {o : Int} (h : regB o = true) : ∃ k : Nat, k < 6 ∧ o = (k : Int) + 1 := by
  simp [regB] at h
  exact ⟨(o - 1).toNat, by omega, by omega⟩

theorem vregion_any (k : Int) (w : World) :
    Calls Try.prog 53 #[.int .i64 k] w fun e w' => e = .returned (.bool (regB k)) ∧ w = w' := by
  go_enter Try.func53, Try.ntmps53
  go_wp2
  all_goals go_ret
  all_goals (refine ⟨?_, rfl⟩; simp [regB]; omega)
theorem vregion_yes (k : Nat) (h : k < 6) (w : World) :
    Calls Try.prog 53 #[.int .i64 (k + 1)] w fun e w' => e = .returned (.bool true) ∧ w = w' :=
  (vregion_any (k + 1) w).mono fun _ _ ⟨h1, h2⟩ => ⟨by rw [h1, regB_yes k h], h2⟩
theorem vregion_no (o : Int) (h : regB o = false) (w : World) :
    Calls Try.prog 53 #[.int .i64 o] w fun e w' => e = .returned (.bool false) ∧ w = w' :=
  (vregion_any o w).mono fun _ _ ⟨h1, h2⟩ => ⟨by rw [h1, h], h2⟩

theorem joinC_any (x y : Int) (w : World) :
    Calls Try.prog 58 #[.int .u64 x, .int .u64 y] w fun e w' => e = .returned (.int .u64 (max x y)) ∧ w = w' := by
  go_enter Try.func58, Try.ntmps58
  go_wp2
  all_goals go_ret
  all_goals (refine ⟨ret_int ?_, rfl⟩; first | rfl | omega)
theorem meetC_any (x y : Int) (w : World) :
    Calls Try.prog 60 #[.int .u64 x, .int .u64 y] w fun e w' => e = .returned (.int .u64 (min x y)) ∧ w = w' := by
  go_enter Try.func60, Try.ntmps60
  go_wp2
  all_goals go_ret
  all_goals (refine ⟨ret_int ?_, rfl⟩; first | rfl | omega)
theorem mayC_any (k : Int) (w : World) :
    Calls Try.prog 55 #[.int .i64 k] w fun e w' => e = .returned (.int .u64 1099511627776) ∧ w = w' := by
  go_enter Try.func55, Try.ntmps55
  go_wp2
  go_ret
  exact ⟨rfl, rfl⟩

/-- A closure that gives F's numbers, in whatever later world. -/
def Gives (fv : FuncId) (caps : List Value) (F : Vec) (w : World) : Prop :=
  ∀ k : Nat, k < 6 → ∀ w1, Below w.heap.size w w1 → Calls Try.prog fv (Value.int .i64 k :: caps).toArray w1 fun e w2 => e = .returned (.int .u64 (F.get k)) ∧ Below w1.heap.size w1 w2

theorem each_any (fv : FuncId) (caps : List Value) (F : Vec) (w : World) (hF : Gives fv caps F w) (hfv : fv = 69 ∨ fv = 55 ∨ fv = 52) :
    Calls Try.prog 51 #[.func (.func fv) #[] caps.toArray] w fun e w' => e = .returned (.agg (vecA F)) ∧ Below w.heap.size w w' := by
  rcases hfv with rfl | rfl | rfl
  all_goals
    go_enter Try.func51, Try.ntmps51
    go_wp2_with fail
    go_loopw [4] (fun i wr => ∃ k : Nat, k ≤ 6 ∧ i = .int .i64 k ∧ Blk wr w.heap.size 30 (vecA (F.upto k)) ∧ Below w.heap.size w wr) (fun i _ => 6 - (intOf i).toNat)
    case atStart => exact ⟨0, by omega, rfl, Blk.new _ _ _, (Below.refl _ _).alloc (Nat.le_refl _) _⟩
    case round =>
      obtain ⟨k, hk, rfl, hv, hb⟩ := hrel
      by_cases hlt : k < 6
      · go_wp2_with fail
        refine (hF k hlt _ hb).mono ?_
        rintro e w1 ⟨rfl, hb1⟩
        have hv1 := hv.below hb1 hv.lt
        obtain ⟨hr1, hr2⟩ := hv1.rules
        have hg := vecA_get (F.upto k) k hlt
        go_wp2
        go_roundw
        case rel =>
          refine ⟨k + 1, by omega, by go_num, ?_, (hb.trans (hb1.mono hb.size)).setCell (Nat.le_refl _) _⟩
          rw [← Vec.upto_succ F k hlt, ← vecA_set _ k _ hlt]
          exact hv1.set_ k _
        case measure => simp [intOf]; omega
      · obtain rfl : k = 6 := by omega
        obtain ⟨hr1, hr2⟩ := hv.rules
        go_wp2
        refine bodyPost_ret (v := .agg (vecA F)) (by simp [results, Try.results51, go_sem, hr1, Vec.upto_six]) rfl ⟨rfl, ?_⟩
        go_grown
end Go.Proofs.Ytgbbhkdaalnchaa
