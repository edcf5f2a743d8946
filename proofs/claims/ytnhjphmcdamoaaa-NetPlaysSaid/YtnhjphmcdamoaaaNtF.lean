/-
  The walk of leatlaw23.few.
-/
import Derived.Test.YtnhjphmcdamoaaaNtC
import Derived.Test.YtnhjphmcdamoaaaStP
namespace Go.Proofs.Ytnhjphmcdamoaaa
set_option linter.unusedVariables false
set_option linter.unusedSimpArgs false
open Go.RowKit Go
set_option maxRecDepth 100000

/-- Are steps gone through? -/
def fewB (P : List Stp) : Bool := decide (P.length ≤ 250) && P.all fun p => decide (p.m.l.length ≤ 20)
theorem nfew (P : List Stp) (A : Option Addr) (c : Nat) (w : World) (hS : Steps w A c P) : Calls Try.prog 40 #[.slice A P.length c] w fun e w' => e = .returned (.bool (fewB P)) ∧ w = w' := by
  have HS := Lib.hid hS
  have hm : c ≤ 9223372036854775807 := hS.mx
  have hle := hS.le
  clear hS
  obtain ⟨R, hR⟩ : ∃ R, fewB P = R := ⟨_, rfl⟩
  rw [hR]
  have HR := Lib.hid hR
  clear hR
  by_cases h1 : 250 < P.length
  · have d1 : decide ((250 : Int) < (P.length : Int)) = true := decide_eq_true (by omega)
    go_enter Try.func40, Try.ntmps40
    go_wp2_with fail
    go_ret
    exact ⟨by rw [← HR.out, fewB, decide_eq_false (show ¬ P.length ≤ 250 by omega)]; rfl, rfl⟩
  · have d1 : decide ((250 : Int) < (P.length : Int)) = false := decide_eq_false (by omega)
    go_enter Try.func40, Try.ntmps40
    go_wp2_with fail
    go_loopw [3] (fun i wr => wr = w ∧ ∃ k : Nat, k ≤ P.length ∧ i = .int .i64 k ∧ ∀ p ∈ P.take k, p.m.l.length ≤ 20) (fun i _ => P.length - (intOf i).toNat)
    case atStart => exact ⟨rfl, 0, by omega, rfl, fun p hp => by simp at hp⟩
    case round =>
      obtain ⟨rfl, k, hk, rfl, hall⟩ := hrel
      have HA := Lib.hid hall
      clear hall
      by_cases hlt : k < P.length
      · obtain ⟨p, hp⟩ : ∃ p, P[k]? = some p := ⟨P[k], List.getElem?_eq_getElem hlt⟩
        obtain ⟨b, o, A', c', rfl, hb, hs, x0, x1, x2, x3, x4, x5, x6, x7, x8, x9, x10, x11, x12, x13, x14⟩ := HS.out.at_ (Below.refl _ _) hp
        have hm2 : c' ≤ 9223372036854775807 := hs.mx
        have hle2 := hs.le
        clear hs x0 x1 x2 x3 x4 x5 x6 x7 x8 x9 x11 x12 x13 x14
        have i1 : (0 : Int) ≤ (k : Int) := by omega
        have i2 : (k : Int) < (P.length : Int) := by omega
        have HP := Lib.hid hp
        clear hp
        by_cases h20 : 20 < p.m.l.length
        · have d2 : decide ((20 : Int) < (p.m.l.length : Int)) = true := decide_eq_true (by omega)
          go_wp2_with fail
          go_ret
          refine ⟨?_, by trivial⟩
          have : (P.all fun p => decide (p.m.l.length ≤ 20)) = false := List.all_eq_false.2 ⟨p, List.mem_of_getElem? HP.out, by simp; omega⟩
          rw [← HR.out, fewB, this, Bool.and_false]
          rfl
        · have d2 : decide ((20 : Int) < (p.m.l.length : Int)) = false := decide_eq_false (by omega)
          go_wp2_with fail
          go_roundw
          case rel =>
            refine ⟨by trivial, k + 1, by omega, by go_num, fun q hq => ?_⟩
            rw [List.take_add_one, HP.out] at hq
            rcases List.mem_append.1 hq with hq | hq
            · exact HA.out q hq
            · obtain rfl : q = p := by simpa using hq
              omega
          case measure => simp [intOf]; omega
      · obtain rfl : k = P.length := by omega
        go_wp2_with fail
        go_ret
        refine ⟨?_, by trivial⟩
        have hall := HA.out
        rw [List.take_of_length_le (Nat.le_refl _)] at hall
        have : (P.all fun p => decide (p.m.l.length ≤ 20)) = true := List.all_eq_true.2 fun p hp => decide_eq_true (hall p hp)
        rw [← HR.out, fewB, this, decide_eq_true (show P.length ≤ 250 by omega)]
        rfl
end Go.Proofs.Ytnhjphmcdamoaaa
