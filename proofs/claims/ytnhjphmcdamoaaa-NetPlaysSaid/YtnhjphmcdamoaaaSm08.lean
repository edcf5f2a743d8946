/-
  The walk of leat/leatref08.Same: the same events?
-/
import Derived.Test.YtnhjphmcdamoaaaGC
import Derived.Deep.QuietTactic
namespace Go.Proofs.Ytnhjphmcdamoaaa
set_option linter.unusedVariables false
set_option linter.unusedSimpArgs false
open Go.RowKit

theorem rsame08 (A1 A2 : Option Addr) (c1 c2 B : Nat) (L M : List Ev) (w : World) (h1 : ERows w B A1 L) (h2 : ERows w B A2 M) (hB : B ≤ w.heap.size) (hc1 : L.length ≤ c1) (hm1 : c1 ≤ maxLen) (hc2 : M.length ≤ c2) (hm2 : c2 ≤ maxLen) :
    Calls Try.prog 65 #[.slice A1 L.length c1, .slice A2 M.length c2] w fun r w' => r = .returned (.bool (decide (L = M))) ∧ Below w.heap.size w w' := by
  have k1 : c1 ≤ 9223372036854775807 := hm1
  have k2 : c2 ≤ 9223372036854775807 := hm2
  by_cases hl : L.length = M.length
  · have HL := Lib.hid hl
    have hne : ((L.length : Int) != (M.length : Int)) = false := by rw [hl]; simp
    go_enter Try.func65, Try.ntmps65
    go_wp2_with fail
    go_loopw [5] (fun i wr => ∃ k : Nat, k ≤ L.length ∧ i = .int .i64 k ∧ L.take k = M.take k ∧ Below w.heap.size w wr) (fun i _ => L.length - (intOf i).toNat)
    case atStart => exact ⟨0, by omega, rfl, rfl, Below.refl _ _⟩
    case round =>
      obtain ⟨k, hk, rfl, htk, hb⟩ := hrel
      have HT := Lib.hid htk
      clear htk
      by_cases hlt : k < L.length
      · have hlt2 : k < M.length := by omega
        obtain ⟨u, hu⟩ : ∃ u, L[k]? = some u := ⟨L[k], List.getElem?_eq_getElem hlt⟩
        obtain ⟨v, hv⟩ : ∃ v, M[k]? = some v := ⟨M[k], List.getElem?_eq_getElem hlt2⟩
        obtain ⟨b1, o1, rfl, hb1, x0, x1, x2, x3, x4, x5, x6, x7, x8, x9, x10, x11, x12, x13⟩ := ERows.at_ (h1.below (hb.mono hB)) hu
        obtain ⟨b2, o2, rfl, hb2, y0, y1, y2, y3, y4, y5, y6, y7, y8, y9, y10, y11, y12, y13⟩ := ERows.at_ (h2.below (hb.mono hB)) hv
        have i1 : (0 : Int) ≤ (k : Int) := by omega
        have i2 : (k : Int) < (L.length : Int) := by omega
        have i3 : (k : Int) < (M.length : Int) := by omega
        have HU := Lib.hid hu
        have HV := Lib.hid hv
        have H1 := Lib.hid h1
        have H2 := Lib.hid h2
        clear hu hv h1 h2 hl
        by_cases he : u = v
        · have hd : decide (u = v) = true := by simpa using he
          have HE := Lib.hid he
          clear he
          go_wp2_with fail
          go_quiet (fail)
          go_wp2_with fail
          go_roundw
          case rel => exact ⟨k + 1, by omega, by go_num, by rw [List.take_add_one, List.take_add_one, HT.out, HU.out, HV.out, HE.out], below_drewN hb _⟩
          case measure => simp [intOf]; omega
        · have hd : decide (u = v) = false := by simpa using he
          have HE := Lib.hid he
          clear he
          go_wp2_with fail
          go_quiet (fail)
          go_wp2_with fail
          go_ret
          refine ⟨?_, below_drewN hb _⟩
          have : decide (L = M) = false := by
            rw [decide_eq_false_iff_not]
            intro e
            have := HU.out
            rw [e, HV.out] at this
            exact HE.out (Option.some.inj this).symm
          rw [this]; rfl
      · obtain rfl : k = L.length := by omega
        go_wp2_with fail
        go_ret
        refine ⟨?_, hb⟩
        have : decide (L = M) = true := by
          rw [decide_eq_true_eq]
          have := HT.out
          rw [List.take_of_length_le (Nat.le_refl _), HL.out, List.take_of_length_le (Nat.le_refl _)] at this
          exact this
        rw [this]; rfl
  · have HL := Lib.hid hl
    have hne : ((L.length : Int) != (M.length : Int)) = true := by simp [bne]; omega
    clear hl
    go_enter Try.func65, Try.ntmps65
    go_wp2_with fail
    go_ret
    refine ⟨?_, Below.refl _ _⟩
    have : decide (L = M) = false := by
      rw [decide_eq_false_iff_not]
      intro e
      exact HL.out (by rw [e])
    rw [this]; rfl
end Go.Proofs.Ytnhjphmcdamoaaa
