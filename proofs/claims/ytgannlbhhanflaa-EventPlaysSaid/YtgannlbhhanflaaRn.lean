/-
  The walks of the document's leatref08: number, Id.
-/
import Derived.Test.YtgannlbhhanflaaRp
import Derived.Test.YtgannlbhhanflaaOct
import Derived.Test.YtgannlbhhanflaaEt
namespace Go.Proofs.Ytgannlbhhanflaa
set_option linter.unusedVariables false
set_option linter.unusedSimpArgs false
open Go.RowKit

set_option maxHeartbeats 400000 in
theorem rnumber (b o cap : Nat) (l : List Int) (m : Nat) (w : World) (hc : ∀ i x, l[i]? = some x → w.cell? ⟨b, o + i, none⟩ = some (.int .u8 x)) (hn : l.length ≤ cap) (hm : cap ≤ maxLen) (hby : ∀ c ∈ l, 0 ≤ c ∧ c ≤ 255) (h : m + 8 ≤ l.length) :
    Calls Try.prog 57 #[.slice (some ⟨b, o, none⟩) l.length cap, .int .i64 m] w fun e w' => e = .returned (.int .u64 (numL ((l.drop m).take 8))) ∧ w = w' := by
  have hm1 : cap ≤ 9223372036854775807 := hm
  have HC := Lib.hid hc
  clear hc
  go_enter Try.func57, Try.ntmps57
  go_wp2_with fail
  go_loop [5, 6] (fun n i => ∃ j : Nat, j ≤ 8 ∧ i = .int .i64 j ∧ n = .int .u64 (numL ((l.drop m).take j))) (fun _ i => 8 - (intOf i).toNat)
  case atStart => exact ⟨0, by omega, rfl, rfl⟩
  case round =>
    obtain ⟨j, hj, rfl, rfl⟩ := hrel
    by_cases hlt : j < 8
    · obtain ⟨x, hx⟩ : ∃ x, l[m + j]? = some x := ⟨l[m + j]'(by omega), List.getElem?_eq_getElem (by omega)⟩
      have hcell := HC.out _ x hx
      obtain ⟨x0, x1⟩ := hby x (List.mem_of_getElem? hx)
      have hnum := Lib.hid (numL_take (l.drop m) j x (by rw [List.getElem?_drop]; exact hx))
      have hor := or_byte (numL ((l.drop m).take j)) x x0 (by omega)
      generalize numL ((l.drop m).take j) = n at hnum hor
      have hwr : IntKind.u64.wrap (n * 256) = n * 256 % 18446744073709551616 := IntKind.wrap_u64 _
      clear hx
      go_wp2_with fail
      go_round
      case rel => exact ⟨j + 1, by omega, by go_num, by rw [hnum.out]⟩
      case measure => simp [intOf]; omega
    · obtain rfl : j = 8 := by omega
      clear hj hlt
      go_wp2_with fail
      go_ret
      exact ⟨rfl, rfl⟩
theorem rid (e : Ev) (hv : e.ok) (w : World) : Calls Try.prog 37 #[.agg (evA e)] w fun r w' => r = .returned (.int .u64 (idE e)) ∧ Below w.heap.size w w' := by
  have hs := hv.s
  cases hr : regE e.o with
  | false =>
    have C1 := Lib.hid (rregion_is e.o false hr)
    have HI := Lib.hid (show idE e = 0 from by unfold idE; rw [hr]; rfl)
    clear hr
    go_enter Try.func37, Try.ntmps37
    go_wp2_with (go_at_call 39; (with_reducible refine (C1.out _).mono ?_); rintro r w1 ⟨rfl, rfl⟩)
    go_ret
    exact ⟨by rw [HI.out]; rfl, (Below.refl _ _).alloc (Nat.le_refl _) _⟩
  | true =>
    have C1 := Lib.hid (rregion_is e.o true hr)
    obtain ⟨k, hk, ho⟩ := regE_out hr
    have HI := Lib.hid (show idE e = (e.o * 1099511627776 + e.s) % 18446744073709551616 from by unfold idE; rw [hr]; rfl)
    have o1 : 1 ≤ e.o := by omega
    have o2 : e.o ≤ 6 := by omega
    clear hr ho
    go_enter Try.func37, Try.ntmps37
    go_wp2_with (go_at_call 39; (with_reducible refine (C1.out _).mono ?_); rintro r w1 ⟨rfl, rfl⟩)
    go_ret
    refine ⟨?_, (Below.refl _ _).alloc (Nat.le_refl _) _⟩
    rw [HI.out]
    refine ret_int ?_
    simp only [IntKind.wrap_u64]
    try omega
end Go.Proofs.Ytgannlbhhanflaa
