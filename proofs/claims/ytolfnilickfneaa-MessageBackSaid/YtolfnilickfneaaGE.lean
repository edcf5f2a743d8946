/-
  The walks of the document's package leatref06: Bytes, Of.
  The walks of the document's package leatref08: word, Put.
  The walk of the document's leatref20.number.
-/
import Derived.Test.YtolfnilickfneaaByt
import Derived.Test.YtolfnilickfneaaVecS
import Derived.Outline
import Derived.Test.YtolfnilickfneaaGC
import Derived.Test.YtolfnilickfneaaEs
import Derived.Test.YtolfnilickfneaaGA
namespace Go.Proofs.Ytolfnilickfneaa
set_option linter.unusedVariables false
set_option linter.unusedSimpArgs false
open Go.RowKit

theorem byte_of_shr (n : Int) (j : Nat) (h : j < 8) (k : Int) (hk : k = 56 - 8 * (j : Int)) : n / 2 ^ k.toNat % 256 = byteAt n j := by
  have : k.toNat = 56 - 8 * j := by omega
  rw [this]; exact byteAt_shr n j h
set_option maxHeartbeats 400000 in
theorem rbytes (v : Vec) (hv : v.ok) (w : World) : Calls Try.prog 70 #[.agg (vecA v)] w (GivesB (vecL v) w) := by
  go_enter Try.func70, Try.ntmps70
  go_wp2_with fail
  go_loopw [3, 4] (fun o i wr => ∃ k : Nat, k ≤ 6 ∧ i = .int .i64 k ∧ wr.ownsRow (w.heap.size + 1) 5 1 o ((vecL v).take (8 * k)).length (bcells ((vecL v).take (8 * k))) ∧ Trk w wr [(w.heap.size, 24, vecA v)]) (fun _ i _ => 6 - (intOf i).toNat)
  case atStart => exact ⟨0, by omega, rfl, World.ownsRow_nil _ _ _ _, (Trk.nil w).push rfl⟩
  case round =>
    obtain ⟨k, hk, rfl, hown, T⟩ := hrel
    by_cases hlt : k < 6
    · obtain ⟨n0, n1⟩ := hv k hlt
      have hkd : decide ((k : Int) < 6) = true := by simp; omega
      have HG := vecA_get v k hlt
      have HT := Lib.hid (vecL_take v k hlt)
      generalize v.get k = n at HG HT n0 n1
      have HG := Lib.hid HG
      go_wp2_with fail
      go_loopw [3, 5] (fun o i w2 => ∃ (j : Nat) (c : Int), j ≤ 8 ∧ c = 56 - 8 * (j : Int) ∧ i = .int .i64 c ∧ w2.ownsRow (w.heap.size + 1) 5 1 o ((vecL v).take (8 * k + j)).length (bcells ((vecL v).take (8 * k + j))) ∧ Trk w w2 [(w.heap.size, 24, vecA v)]) (fun _ i _ => (intOf i + 8).toNat)
      case atStart => exact ⟨0, 56, by omega, rfl, rfl, hown, T⟩
      case round =>
        obtain ⟨j, c, hj, hc, rfl, hown2, T2⟩ := hrel
        clear hown T
        by_cases hj8 : j < 8
        · have hB := Lib.hid (byte_of_shr n j hj8 c hc)
          have hW := Lib.hid (wordL_take n j hj8)
          have hsz := T2.lt
          have c0 : 0 ≤ c := by omega
          have c1 : c ≤ 56 := by omega
          have hlen : ((vecL v).take (8 * k + j)).length ≤ 48 := by rw [List.length_take, vecL_length]; omega
          generalize hl : (vecL v).take (8 * k + j) = l at hown2 hlen
          have HL := Lib.hid hl
          have HC := Lib.hid hc
          have hg := HG.out
          obtain ⟨q0, -, -⟩ := T2.rules
          clear hl hc
          go_wp2_with (first
            | (at_builtin; refine append_u8 _ rfl (.tmp 14) (.tmp 22) rfl (w.heap.size + 1) _ l _ rfl (hown2.alloc _) wr.heap.size rfl (Blk.new _ _ _) (by omega) (by simp; omega) ?_; intro v' w' hown' hb'))
          go_roundw
          case rel =>
            have e : (vecL v).take (8 * k + (j + 1)) = l ++ [n / 2 ^ c.toNat % 256] := by
              rw [HT.out (j + 1) (by omega), hW.out, ← List.append_assoc, ← HT.out j (by omega), HL.out, hB.out]
            refine ⟨j + 1, c - 8, by omega, by rw [HC.out]; omega, rfl, ?_, ?_⟩
            · rw [e]; exact hown'
            · exact (T2.alloc _).callB hb' (Nat.le_succ _) ⟨by omega, trivial⟩
          case measure => simp [intOf]; omega
        · obtain rfl : j = 8 := by omega
          obtain rfl : c = -8 := by omega
          go_wp2_with fail
          go_roundw
          case rel => exact ⟨k + 1, by omega, by go_num, by rw [Nat.mul_succ]; exact hown2, T2⟩
          case measure => simp [intOf]; omega
    · obtain rfl : k = 6 := by omega
      rw [List.take_of_length_le (by rw [vecL_length]; decide)] at hown
      go_wp2_with fail
      go_ret
      exact ⟨_, rfl, own_mono hown (Nat.le_succ _), T.below⟩
end Go.Proofs.Ytolfnilickfneaa
namespace Go.Proofs.Ytolfnilickfneaa
set_option linter.unusedVariables false
set_option linter.unusedSimpArgs false
open Go.RowKit

set_option maxHeartbeats 400000 in
theorem rword (n : Int) (n0 : 0 ≤ n) (n1 : n ≤ 18446744073709551615) (w : World) : Calls Try.prog 69 #[.int .u64 n] w (GivesB (wordL n) w) := by
  go_enter Try.func69, Try.ntmps69
  go_wp2_with fail
  go_loopw [3, 4] (fun o i w2 => ∃ (j : Nat) (c : Int), j ≤ 8 ∧ c = 56 - 8 * (j : Int) ∧ i = .int .i64 c ∧ w2.ownsRow w.heap.size 5 1 o ((wordL n).take j).length (bcells ((wordL n).take j)) ∧ Below w.heap.size w w2) (fun _ i _ => (intOf i + 8).toNat)
  case atStart => exact ⟨0, 56, by omega, rfl, rfl, World.ownsRow_nil _ _ _ _, Below.refl _ _⟩
  case round =>
    obtain ⟨j, c, hj, hc, rfl, hown2, T2⟩ := hrel
    by_cases hj8 : j < 8
    · have hB := Lib.hid (byte_of_shr n j hj8 c hc)
      have hW := Lib.hid (wordL_take n j hj8)
      have hsz := T2.size
      have c0 : 0 ≤ c := by omega
      have c1 : c ≤ 56 := by omega
      have hlen : ((wordL n).take j).length ≤ 8 := by rw [List.length_take, wordL_length]; omega
      generalize hl : (wordL n).take j = l at hown2 hlen
      have HL := Lib.hid hl
      have HC := Lib.hid hc
      clear hl hc
      go_wp2_with (first
        | (at_builtin; refine append_u8 _ rfl (.tmp 9) (.tmp 15) rfl w.heap.size _ l _ rfl (hown2.alloc _) wr.heap.size rfl (Blk.new _ _ _) (by omega) (by simp; omega) ?_; intro v' w' hown' hb'))
      go_roundw
      case rel =>
        have e : (wordL n).take (j + 1) = l ++ [n / 2 ^ c.toNat % 256] := by rw [hW.out, HL.out, hB.out]
        refine ⟨j + 1, c - 8, by omega, by rw [HC.out]; omega, rfl, ?_, ?_⟩
        · rw [e]; exact hown'
        · exact (T2.alloc hsz _).trans hb'
      case measure => simp [intOf]; omega
    · obtain rfl : j = 8 := by omega
      obtain rfl : c = -8 := by omega
      rw [List.take_of_length_le (by rw [wordL_length]; decide)] at hown2
      go_wp2_with fail
      go_ret
      exact ⟨_, rfl, hown2, T2⟩
end Go.Proofs.Ytolfnilickfneaa
namespace Go.Proofs.Ytolfnilickfneaa
set_option linter.unusedVariables false
set_option linter.unusedSimpArgs false
open Go.RowKit

set_option maxHeartbeats 400000 in
theorem rnumber20 (n : Int) (n0 : 0 ≤ n) (n1 : n ≤ 18446744073709551615) (base : Nat) (v : Value) (h : List Int) (w : World) (hh : h.length ≤ 1000) (hown : w.ownsRow base 5 1 v h.length (bcells h)) (hbw : base ≤ w.heap.size) : Calls Try.prog 78 #[v, .int .u64 n] w (GrowsB base v (h ++ wordL n) w) := by
  go_enter Try.func78, Try.ntmps78
  go_wp2_with fail
  go_loopw [0, 5] (fun o i w2 => ∃ (j : Nat) (c : Int), j ≤ 8 ∧ c = 56 - 8 * (j : Int) ∧ i = .int .i64 c ∧ w2.ownsRow base 5 1 o (h ++ (wordL n).take j).length (bcells (h ++ (wordL n).take j)) ∧ Below base w w2 ∧ Gr w v w2 o) (fun _ i _ => (intOf i + 8).toNat)
  case atStart => exact ⟨0, 56, by omega, rfl, rfl, by simpa using hown, Below.refl _ _, Gr.refl _ _⟩
  case round =>
    clear hown
    obtain ⟨j, c, hj, hc, rfl, hown2, T2, hg⟩ := hrel
    by_cases hj8 : j < 8
    · have hB := Lib.hid (byte_of_shr n j hj8 c hc)
      have hW := Lib.hid (wordL_take n j hj8)
      have hsz := T2.size
      have c0 : 0 ≤ c := by omega
      have c1 : c ≤ 56 := by omega
      have hlen : (h ++ (wordL n).take j).length ≤ 2000 := by rw [List.length_append, List.length_take, wordL_length]; omega
      generalize hl : h ++ (wordL n).take j = l at hown2 hlen
      have HL := Lib.hid hl
      have HC := Lib.hid hc
      have HG := Lib.hid hg
      clear hl hc hg
      go_wp2_with (first
        | (at_builtin; refine append_u8F _ rfl (.tmp 10) (.tmp 16) rfl base _ l _ rfl (hown2.alloc _) wr.heap.size rfl (Blk.new _ _ _) (by omega) (by simp; omega) ?_; intro v' w' hown' hb' hg'))
      go_roundw
      case rel =>
        have e : h ++ (wordL n).take (j + 1) = l ++ [n / 2 ^ c.toNat % 256] := by rw [hW.out, ← List.append_assoc, HL.out, hB.out]
        refine ⟨j + 1, c - 8, by omega, by rw [HC.out]; omega, rfl, ?_, ?_, (HG.out.alloc _).trans hg'⟩
        · rw [e]; exact hown'
        · exact (T2.alloc (Nat.le_trans hbw hsz) _).trans hb'
      case measure => simp [intOf]; omega
    · obtain rfl : j = 8 := by omega
      obtain rfl : c = -8 := by omega
      rw [List.take_of_length_le (by rw [wordL_length]; decide)] at hown2
      have HG := Lib.hid hg
      clear hg
      go_wp2_with fail
      go_ret
      exact ⟨_, rfl, hown2, T2, HG.out⟩
end Go.Proofs.Ytolfnilickfneaa
