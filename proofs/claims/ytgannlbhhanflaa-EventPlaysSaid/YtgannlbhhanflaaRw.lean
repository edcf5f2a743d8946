/-
  The walks of the document's package leatref08: word, Put.
-/
import Derived.Test.YtgannlbhhanflaaSq
import Derived.Test.YtgannlbhhanflaaEs
import Derived.Test.YtgannlbhhanflaaEpP
import Derived.Test.YtgannlbhhanflaaBytR
namespace Go.Proofs.Ytgannlbhhanflaa
set_option linter.unusedVariables false
set_option linter.unusedSimpArgs false
open Go.RowKit

set_option maxHeartbeats 400000 in
theorem rword (n : Int) (n0 : 0 ≤ n) (n1 : n ≤ 18446744073709551615) (w : World) : Calls Try.prog 60 #[.int .u64 n] w (GivesB (wordL n) w) := by
  go_enter Try.func60, Try.ntmps60
  go_wp2_with fail
  go_loopw [3, 4] (fun o i w2 => ∃ (j : Nat) (c : Int), j ≤ 8 ∧ c = 56 - 8 * (j : Int) ∧ i = .int .i64 c ∧ w2.ownsRow w.heap.size 5 1 o ((wordL n).take j).length (bcells ((wordL n).take j)) ∧ Below w.heap.size w w2) (fun _ i _ => (intOf i + 8).toNat)
  case atStart => exact ⟨0, 56, by omega, rfl, rfl, World.ownsRow_nil _ _ _ _, Below.refl _ _⟩
  case round =>
    obtain ⟨j, c, hj, hc, rfl, hown2, T2⟩ := hrel
    by_cases hj8 : j < 8
    · have hB := Lib.hid (byte_of_shr n j hj8 c hc)
      have hW := Lib.hid (wordL_take n j hj8)
      have hsz := T2.size
      have c0 : 0 ≤ c := by omega
      have c1 : c ≤ 56 := by omega
      have hlen : ((wordL n).take j).length ≤ 8 := by rw [List.length_take, wordL_length]; omega
      generalize hl : (wordL n).take j = l at hown2 hlen
      have HL := Lib.hid hl
      have HC := Lib.hid hc
      clear hl hc
      go_wp2_with (first
        | (at_builtin; refine append_u8 _ rfl (.tmp 9) (.tmp 15) rfl w.heap.size _ l _ rfl (hown2.alloc _) wr.heap.size rfl (Blk.new _ _ _) (by omega) (by simp; omega) ?_; intro v' w' hown' hb'))
      go_roundw
      case rel =>
        have e : (wordL n).take (j + 1) = l ++ [n / 2 ^ c.toNat % 256] := by rw [hW.out, HL.out, hB.out]
        refine ⟨j + 1, c - 8, by omega, by rw [HC.out]; omega, rfl, ?_, ?_⟩
        · rw [e]; exact hown'
        · exact (T2.alloc hsz _).trans hb'
      case measure => simp [intOf]; omega
    · obtain rfl : j = 8 := by omega
      obtain rfl : c = -8 := by omega
      rw [List.take_of_length_le (by rw [wordL_length]; decide)] at hown2
      go_wp2_with fail
      go_ret
      exact ⟨_, rfl, hown2, T2⟩
end Go.Proofs.Ytgannlbhhanflaa
