/-
  The walks of package net: region, there, Len, New; slices.Clone.
-/
import Derived.Test.YtnhjphmcdamoaaaMrs
import Derived.Test.YtnhjphmcdamoaaaNtP
import Derived.Test.YtnhjphmcdamoaaaGC
import Derived.Laws.Cover3
namespace Go.Proofs.Ytnhjphmcdamoaaa
set_option linter.unusedVariables false
set_option linter.unusedSimpArgs false
open Go.RowKit
set_option maxRecDepth 100000

theorem nregion_any (k : Int) (w : World) :
    Calls Try.prog 62 #[.int .i64 k] w fun e w' => e = .returned (.bool (regE k)) ∧ w = w' := by
  go_enter Try.func62, Try.ntmps62
  go_wp2
  all_goals go_ret
  all_goals (refine ⟨?_, rfl⟩; simp [regE]; omega)
theorem nregion_is (k : Int) (b : Bool) (h : regE k = b) (w : World) :
    Calls Try.prog 62 #[.int .i64 k] w fun e w' => e = .returned (.bool b) ∧ w = w' := by
  subst h; exact nregion_any k w
theorem nthere_nil (k : Int) (w : World) : Calls Try.prog 61 #[.pointer none, .int .i64 k] w fun e w' => e = .returned (.bool false) ∧ w = w' := by
  go_enter Try.func61, Try.ntmps61
  go_wp2
  all_goals go_ret
  all_goals exact ⟨rfl, rfl⟩
theorem nthere (h : Nat) (A : Option Addr) (n cap : Nat) (C : Nat → Bool) (k : Int) (b : Bool) (hb : decide (0 ≤ k ∧ k < (n : Int)) = b) (w : World) (hB : Blk w h 82 (netA (.slice A n cap) C)) :
    Calls Try.prog 61 #[.pointer (some ⟨h, 0, none⟩), .int .i64 k] w fun e w' => e = .returned (.bool b) ∧ w = w' := by
  obtain ⟨q, -⟩ := hB.rules
  have q0 : w.cell? ⟨h, 0, none⟩ = some (.slice A n cap) := by rw [q]; rfl
  have hl := hB.lt
  clear q hB
  by_cases h1 : 0 ≤ k
  · by_cases h2 : k < (n : Int)
    · obtain rfl : true = b := by rw [← hb]; simp [h1, h2]
      clear hb
      go_enter Try.func61, Try.ntmps61
      go_wp2_with fail
      go_ret
      exact ⟨rfl, rfl⟩
    · obtain rfl : false = b := by rw [← hb]; simp [h2]
      have h3 : decide (k < (n : Int)) = false := decide_eq_false h2
      clear hb
      go_enter Try.func61, Try.ntmps61
      go_wp2_with fail
      go_ret
      exact ⟨rfl, rfl⟩
  · obtain rfl : false = b := by rw [← hb]; simp [h1]
    have h3 : decide (0 ≤ k) = false := decide_eq_false h1
    clear hb
    go_enter Try.func61, Try.ntmps61
    go_wp2_with fail
    go_ret
    exact ⟨rfl, rfl⟩
theorem nlen_nil (w : World) : Calls Try.prog 34 #[.pointer none] w fun e w' => e = .returned (.int .i64 0) ∧ w = w' := by
  go_enter Try.func34, Try.ntmps34
  go_wp2
  all_goals go_ret
  all_goals exact ⟨rfl, rfl⟩
theorem nlen (h : Nat) (A : Option Addr) (n cap : Nat) (C : Nat → Bool) (w : World) (hB : Blk w h 82 (netA (.slice A n cap) C)) :
    Calls Try.prog 34 #[.pointer (some ⟨h, 0, none⟩)] w fun e w' => e = .returned (.int .i64 n) ∧ w = w' := by
  obtain ⟨q, -⟩ := hB.rules
  have q0 : w.cell? ⟨h, 0, none⟩ = some (.slice A n cap) := by rw [q]; rfl
  have hl := hB.lt
  clear q hB
  go_enter Try.func34, Try.ntmps34
  go_wp2_with fail
  go_ret
  exact ⟨rfl, rfl⟩
theorem nnew (w : World) : Calls Try.prog 31 #[] w fun e w' => e = .returned (.pointer (some ⟨w.heap.size, 0, none⟩)) ∧ w' = w.alloc (.cells (netA (.slice none 0 0) fun _ => false) 82) := by
  go_enter Try.func31, Try.ntmps31
  go_wp2_with fail
  go_ret
  exact ⟨rfl, rfl⟩
theorem eql_evs_nil (A : Option Addr) (l c : Nat) (w : World) : (binOp .eql 46 (.slice A l c) (.slice none 0 0)).run Try.prog w = .ok (.bool A.isNone) w := by
  simp only [binOp]
  simp [run_equal_slice_nil w 46 68 A l c Try.underlying46]
theorem clone_ev (A : Option Addr) (c : Nat) (L : List Ev) (w : World) (hL : ERows w w.heap.size A L) (hn : L.length ≤ 100000) :
    Calls Try.prog 71 #[.slice A L.length c] w fun e w' => ∃ u, e = .returned u ∧ w'.ownsRow w.heap.size 68 14 u L.length (ecells L) ∧ Below w.heap.size w w' := by
  cases A with
  | none =>
    have h0 : L = [] := by
      cases L with
      | nil => rfl
      | cons e L => obtain ⟨b, o, h, _⟩ := hL.2 (by simp); cases h
    subst h0
    clear hL
    have hnil := eql_evs_nil none 0 c
    simp only [Option.isNone_none] at hnil
    go_enter Try.func71, Try.ntmps71
    go_wp2_with fail
    go_ret
    exact ⟨_, rfl, World.ownsRow_nil _ _ _ _, Below.refl _ _⟩
  | some a =>
    have HL := Lib.hid hL
    clear hL
    have hnil := eql_evs_nil (some a) L.length c
    simp only [Option.isNone_some] at hnil
    go_enter Try.func71, Try.ntmps71
    go_wp2_with (at_builtin; refine append_evs _ rfl (.tmp 5) (.tmp 6) rfl w.heap.size _ [] L rfl ?h1 (some a) c w.heap.size rfl ?h2 ?h3 ?h4 ?_; (case h1 => exact World.ownsRow_made w #[] 0 (Nat.le_refl _) (by decide) rfl); (case h2 => exact HL.out.below ((Below.refl _ _).alloc (Nat.le_refl _) _)); (case h3 => simp; omega); (case h4 => simp); intro v' w' hown hb)
    go_ret
    rw [List.nil_append] at hown
    exact ⟨_, rfl, hown, ((Below.refl _ _).alloc (Nat.le_refl _) _).trans hb⟩
end Go.Proofs.Ytnhjphmcdamoaaa
