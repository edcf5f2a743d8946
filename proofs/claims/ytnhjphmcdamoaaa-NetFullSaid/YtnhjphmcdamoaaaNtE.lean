/-
  The walk of leatlaw23.NetFull.
-/
import Derived.Test.YtnhjphmcdamoaaaNtC
namespace Go.Proofs.Ytnhjphmcdamoaaa
set_option linter.unusedVariables false
set_option linter.unusedSimpArgs false
open Go.RowKit Go
set_option maxRecDepth 100000

/-- So many of the one message. -/
def ones (q : Nat) : List Ms := List.replicate q oneMs
theorem ones_len (q : Nat) : (ones q).length = q := List.length_replicate
theorem ones_succ (q : Nat) : ones q ++ [oneMs] = ones (q + 1) := List.replicate_succ'.symm
theorem ones_get (q i : Nat) (h : i < q) : (ones q)[i]? = some oneMs := by unfold ones; rw [List.getElem?_replicate, if_pos h]
theorem ones_erase (q i : Nat) (h : i < q) : (ones q).eraseIdx i = ones (q - 1) := by unfold ones; rw [List.eraseIdx_replicate, if_pos h]
theorem putC_ok (q : Nat) (h : q < 128) : putC (ones q) (fun _ => false) oneMs = 0 := by simp [putC, oneMs_may, ones_len, h]
theorem putC_full (q : Nat) (h : 128 ≤ q) : putC (ones q) (fun _ => false) oneMs = 7 := by simp [putC, oneMs_may, ones_len, h]
theorem putL_ok (q : Nat) (h : q < 128) : putL (ones q) (fun _ => false) oneMs = ones (q + 1) := by rw [← ones_succ]; simp [putL, oneMs_may, ones_len, h]
theorem putL_full (q : Nat) (h : 128 ≤ q) : putL (ones q) (fun _ => false) oneMs = ones q := by simp [putL, oneMs_may, ones_len, h]
theorem putC_cut (L : List Ms) : putC L (cutSet (cutSet (fun _ => false) 6 true) 1 true) oneMs = 0 := by
  rw [putC, if_neg (by rw [oneMs_may]; decide), if_pos (by decide)]
theorem putL_cut (L : List Ms) : putL L (cutSet (cutSet (fun _ => false) 6 true) 1 true) oneMs = L := by
  rw [putL, if_neg (by rw [oneMs_may]; decide), if_pos (by decide)]
set_option maxHeartbeats 8000000 in
theorem netfull_law (n k : Int) (hn0 : 0 ≤ n) (hn : n ≤ 255) (hk0 : 0 ≤ k) (hk : k ≤ 255) (w : World) :
    Calls Try.prog 6 #[.int .u8 n, .int .u8 k] w fun r w' => r = .returned (.bool true) ∧ Below w.heap.size w w' := by
  obtain ⟨n, rfl⟩ : ∃ a : Nat, n = (a : Int) := ⟨n.toNat, by omega⟩
  obtain ⟨k, rfl⟩ : ∃ a : Nat, k = (a : Int) := ⟨k.toNat, by omega⟩
  go_enter Try.func6, Try.ntmps6
  go_wp2_with fail
  refine (nnew _).mono ?_
  rintro r w1 ⟨rfl, rfl⟩
  have N := Net.new w
  generalize w.alloc _ = w1 at N ⊢
  go_wp2_with fail
  refine (none23 _).mono ?_
  rintro r w2 ⟨rfl, hb⟩
  replace N := (N.call hb).push (t := 48) (cs := mcA ⟨2, 1, 2, Vec.zero, .slice none 0 0, 9, 3⟩) rfl
  clear hb
  go_wp2_with fail
  go_loopw [8] (fun i wr => ∃ (j : Nat) (s : Value) (X : List Mc), j ≤ n ∧ i = .int .i64 j ∧ Net w wr [(w2.heap.size, 48, mcA ⟨2, 1, 2, Vec.zero, .slice none 0 0, 9, 3⟩)] w.heap.size s X (ones (min j 128)) fun _ => false) (fun i _ => n - (intOf i).toNat)
  case atStart => exact ⟨0, _, _, by omega, rfl, N⟩
  case round =>
    clear N
    obtain ⟨j, s, X, hj, rfl, N⟩ := hrel
    obtain ⟨q0, f0, q1, f1, -⟩ := N.T.rules
    obtain ⟨l0, l1, -⟩ := N.T.lts
    by_cases hlt : j < n
    · have i1 : (j : Int) < (n : Int) := by omega
      go_wp2_with fail
      refine (nput_one N).mono ?_
      rintro r w3 ⟨rfl, s3, X3, N3, -⟩
      clear N q0 f0 q1 f1 l0 l1
      by_cases h8 : j < 128
      · rw [putC_ok _ (by omega)]
        rw [putL_ok _ (by omega), show min j 128 + 1 = min (j + 1) 128 by omega] at N3
        have d1 : decide ((j : Int) < 128) = true := decide_eq_true (by omega)
        go_wp2_with fail
        go_roundw
        case rel => exact ⟨j + 1, _, _, by omega, by go_num, N3⟩
        case measure => simp [intOf]; omega
      · rw [putC_full _ (by omega)]
        rw [putL_full _ (by omega), show min j 128 = min (j + 1) 128 by omega] at N3
        have d1 : decide ((j : Int) < 128) = false := decide_eq_false (by omega)
        go_wp2_with fail
        go_roundw
        case rel => exact ⟨j + 1, _, _, by omega, by go_num, N3⟩
        case measure => simp [intOf]; omega
    · obtain rfl : j = n := by omega
      clear q0 f0 q1 f1 l0 l1 hlt
      have hx : X.length = min j 128 := N.evs.len.trans (ones_len _)
      obtain ⟨A1, c1, rfl, -⟩ := own_open N.own
      rw [hx] at N
      rcases (show j = 0 ∨ (1 ≤ j ∧ j < 128) ∨ 128 ≤ j by omega) with h | ⟨h1, h2⟩ | h
      · subst h
        rw [show min 0 128 = 0 from rfl] at N
        clear hx
        go_wp2_with fail
        refine (nlenB A1 0 c1 N.blk).mono ?_
        rintro r w3 ⟨rfl, hb⟩
        replace N := N.call hb
        clear hb
        go_wp2_with fail
        refine (ntwice_none 0 A1 0 c1 N.blk (by decide)).mono ?_
        rintro r w4 ⟨rfl, rfl⟩
        go_wp2_with fail
        refine (nlenB A1 0 c1 N.blk).mono ?_
        rintro r w4 ⟨rfl, hb⟩
        replace N := N.call hb
        clear hb
        obtain ⟨q0, f0, q1, f1, -⟩ := N.T.rules
        obtain ⟨l0, l1, -⟩ := N.T.lts
        go_wp2_with fail
        have t3 : Calls Try.prog 36 #[.pointer (some ⟨w.heap.size, 0, none⟩), .int .i64 2, .int .i64 1] _ fun e w' => e = .returned (.int .i64 0) ∧ Net w w' [(w2.heap.size, 48, mcA ⟨2, 1, 2, Vec.zero, .slice none 0 0, 9, 3⟩)] w.heap.size _ _ (ones 0) (cutSet (cutSet (fun _ => false) 6 true) 1 true) ∧ Fr _ w' w.heap.size none := ncutN N 1 0 (by decide) (by decide) (by decide)
        refine t3.mono ?_
        clear t3 N q0 f0 q1 f1 l0 l1
        rintro r w6 ⟨rfl, N, -⟩
        obtain ⟨q0, f0, q1, f1, -⟩ := N.T.rules
        obtain ⟨l0, l1, -⟩ := N.T.lts
        go_wp2_with fail
        refine (nput_one N).mono ?_
        clear N q0 f0 q1 f1 l0 l1
        rintro r w7 ⟨rfl, s7, X7, N, -⟩
        rw [putC_cut]
        rw [putL_cut] at N
        have hx : X7.length = 0 := N.evs.len.trans (ones_len _)
        obtain ⟨A7, c7, rfl, -⟩ := own_open N.own
        rw [hx] at N
        clear hx
        go_wp2_with fail
        refine (nlenB A7 (0) c7 N.blk).mono ?_
        rintro r w8 ⟨rfl, hb⟩
        replace N := N.call hb
        clear hb
        go_wp2_with fail
        refine (nhealN N).mono ?_
        clear N
        rintro r w9 ⟨rfl, N, -⟩
        go_wp2_with fail
        refine (works23 _).mono ?_
        rintro r w10 ⟨rfl, hb⟩
        have T := N.T.call hb
        go_wp2_with fail
        go_ret
        exact ⟨rfl, T.below⟩
      · rw [show min j 128 = j by omega] at N hx
        go_wp2_with fail
        refine (nlenB A1 j c1 N.blk).mono ?_
        rintro r w3 ⟨rfl, hb⟩
        replace N := N.call hb
        clear hb
        go_wp2_with fail
        refine (ntwice_ok 0 oneMs (ones_get _ _ (by omega)) (by decide) N (by omega)).mono ?_
        clear N hx
        rintro r w4 ⟨rfl, s4, X4, N, -⟩
        rw [ones_succ] at N
        obtain ⟨p, hp, hp2⟩ : ∃ p : Nat, p = j ∧ p < 128 := ⟨j, rfl, h2⟩
        rw [← hp] at N
        have hx : X4.length = p + 1 := N.evs.len.trans (ones_len _)
        obtain ⟨A1, c1, rfl, -⟩ := own_open N.own
        rw [hx] at N
        clear hx hp
        go_wp2_with fail
        refine (nlenB A1 (p + 1) c1 N.blk).mono ?_
        rintro r w5 ⟨rfl, hb⟩
        replace N := N.call hb
        clear hb
        obtain ⟨q0, f0, q1, f1, -⟩ := N.T.rules
        obtain ⟨l0, l1, -⟩ := N.T.lts
        go_wp2_with fail
        have t3 : Calls Try.prog 36 #[.pointer (some ⟨w.heap.size, 0, none⟩), .int .i64 2, .int .i64 1] _ fun e w' => e = .returned (.int .i64 0) ∧ Net w w' [(w2.heap.size, 48, mcA ⟨2, 1, 2, Vec.zero, .slice none 0 0, 9, 3⟩)] w.heap.size _ _ (ones (p + 1)) (cutSet (cutSet (fun _ => false) 6 true) 1 true) ∧ Fr _ w' w.heap.size none := ncutN N 1 0 (by decide) (by decide) (by decide)
        refine t3.mono ?_
        clear t3 N q0 f0 q1 f1 l0 l1
        rintro r w6 ⟨rfl, N, -⟩
        obtain ⟨q0, f0, q1, f1, -⟩ := N.T.rules
        obtain ⟨l0, l1, -⟩ := N.T.lts
        go_wp2_with fail
        refine (nput_one N).mono ?_
        clear N q0 f0 q1 f1 l0 l1
        rintro r w7 ⟨rfl, s7, X7, N, -⟩
        rw [putC_cut]
        rw [putL_cut] at N
        have hx : X7.length = p + 1 := N.evs.len.trans (ones_len _)
        obtain ⟨A7, c7, rfl, -⟩ := own_open N.own
        rw [hx] at N
        clear hx
        go_wp2_with fail
        refine (nlenB A7 (p + 1) c7 N.blk).mono ?_
        rintro r w8 ⟨rfl, hb⟩
        replace N := N.call hb
        clear hb
        go_wp2_with fail
        refine (nhealN N).mono ?_
        clear N
        rintro r w9 ⟨rfl, N, -⟩
        have a1 : ¬ (p : Int) + 1 = 0 := by omega
        have hrr : Int.tmod (k : Int) ((p : Int) + 1) = ((k % (p + 1) : Nat) : Int) := by rw [Int.tmod_eq_emod_of_nonneg (by omega)]; simp
        have hrl : k % (p + 1) < p + 1 := Nat.mod_lt _ (by omega)
        generalize k % (p + 1) = kk at hrr hrl
        go_wp2_with fail
        have t4 : Calls Try.prog 39 #[.pointer (some ⟨w.heap.size, 0, none⟩), .int .i64 (kk : Int)] w9 fun e w' => ∃ u, e = .returned (.tuple #[.agg (mcA ⟨2, 1, 2, Vec.zero, u, 9, 3⟩), .bool true]) ∧ w'.ownsRow w.heap.size 68 14 u 0 (ecells []) ∧ NetTo w w9 w' [(w2.heap.size, 48, mcA ⟨2, 1, 2, Vec.zero, .slice none 0 0, 9, 3⟩)] w.heap.size _ _ ((ones (p + 1)).eraseIdx kk) fun _ => false := ntake_ok kk oneMs (ones_get _ _ hrl) N
        refine t4.mono ?_
        clear N t4
        rintro r w10 ⟨u, rfl, own, s10, X10, N, -⟩
        obtain ⟨A, c, rfl, -⟩ := own_open own
        rw [ones_erase _ _ hrl, Nat.add_sub_cancel] at N
        clear own hrr
        replace N := N.call ((Below.refl _ _).alloc (Nat.le_refl _) (.cells (mcA ⟨2, 1, 2, Vec.zero, .slice A 0 c, 9, 3⟩) 48 (0, 0)))
        have hx : X10.length = p := N.evs.len.trans (ones_len _)
        obtain ⟨A9, c9, rfl, -⟩ := own_open N.own
        rw [hx] at N
        clear hx
        go_wp2_with fail
        refine (nlenB A9 p c9 N.blk).mono ?_
        rintro r w11 ⟨rfl, hb⟩
        replace N := N.call hb
        clear hb
        obtain ⟨q0, f0, q1, f1, -⟩ := N.T.rules
        obtain ⟨l0, l1, -⟩ := N.T.lts
        go_wp2_with fail
        refine (nput_one N).mono ?_
        clear N q0 f0 q1 f1 l0 l1
        rintro r w12 ⟨rfl, s12, X12, N, -⟩
        rw [putC_ok _ hp2]
        rw [putL_ok _ hp2] at N
        have hx : X12.length = p + 1 := N.evs.len.trans (ones_len _)
        obtain ⟨A12, c12, rfl, -⟩ := own_open N.own
        rw [hx] at N
        clear hx
        go_wp2_with fail
        refine (nlenB A12 (p + 1) c12 N.blk).mono ?_
        rintro r w13 ⟨rfl, hb⟩
        replace N := N.call hb
        clear hb
        obtain ⟨q0, f0, q1, f1, -⟩ := N.T.rules
        obtain ⟨l0, l1, -⟩ := N.T.lts
        by_cases h9 : p + 1 < 128
        · have d9 : decide ((p : Int) + 1 < 128) = true := decide_eq_true (by omega)
          go_wp2_with fail
          refine (works23 _).mono ?_
          rintro r w14 ⟨rfl, hb⟩
          have T := N.T.call hb
          clear N q0 f0 q1 f1 l0 l1
          go_wp2_with fail
          go_ret
          exact ⟨rfl, T.below⟩
        · have d9 : decide ((p : Int) + 1 < 128) = false := decide_eq_false (by omega)
          go_wp2_with fail
          refine (nput_one N).mono ?_
          clear N q0 f0 q1 f1 l0 l1
          rintro r w14 ⟨rfl, s14, X14, N, -⟩
          rw [putC_full _ (by omega)]
          go_wp2_with fail
          refine (works23 _).mono ?_
          rintro r w15 ⟨rfl, hb⟩
          have T := N.T.call hb
          clear N
          go_wp2_with fail
          go_ret
          exact ⟨rfl, T.below⟩
      · rw [show min j 128 = 128 by omega] at N hx
        go_wp2_with fail
        refine (nlenB A1 128 c1 N.blk).mono ?_
        rintro r w3 ⟨rfl, hb⟩
        replace N := N.call hb
        clear hb
        obtain ⟨p, hp, hp2⟩ : ∃ p : Nat, 128 = p + 1 ∧ p < 128 := ⟨127, rfl, by omega⟩
        go_wp2_with fail
        all_goals
          refine (ntwice_full 0 A1 128 c1 N.blk (by decide) (by decide)).mono ?_
          rintro r w4 ⟨rfl, rfl⟩
          rw [hp] at N
          clear hx
          have HP := Lib.hid hp
          clear hp
          go_wp2_with fail
          refine (nlenB A1 (p + 1) c1 N.blk).mono ?_
          rintro r w5 ⟨rfl, hb⟩
          replace N := N.call hb
          clear hb
          obtain ⟨q0, f0, q1, f1, -⟩ := N.T.rules
          obtain ⟨l0, l1, -⟩ := N.T.lts
          go_wp2_with fail
          have t3 : Calls Try.prog 36 #[.pointer (some ⟨w.heap.size, 0, none⟩), .int .i64 2, .int .i64 1] _ fun e w' => e = .returned (.int .i64 0) ∧ Net w w' [(w2.heap.size, 48, mcA ⟨2, 1, 2, Vec.zero, .slice none 0 0, 9, 3⟩)] w.heap.size _ _ (ones (p + 1)) (cutSet (cutSet (fun _ => false) 6 true) 1 true) ∧ Fr _ w' w.heap.size none := ncutN N 1 0 (by decide) (by decide) (by decide)
          refine t3.mono ?_
          clear t3 N q0 f0 q1 f1 l0 l1
          rintro r w6 ⟨rfl, N, -⟩
          obtain ⟨q0, f0, q1, f1, -⟩ := N.T.rules
          obtain ⟨l0, l1, -⟩ := N.T.lts
          go_wp2_with fail
          refine (nput_one N).mono ?_
          clear N q0 f0 q1 f1 l0 l1
          rintro r w7 ⟨rfl, s7, X7, N, -⟩
          rw [putC_cut]
          rw [putL_cut] at N
          have hx : X7.length = p + 1 := N.evs.len.trans (ones_len _)
          obtain ⟨A7, c7, rfl, -⟩ := own_open N.own
          rw [hx] at N
          clear hx
          go_wp2_with fail
          refine (nlenB A7 (p + 1) c7 N.blk).mono ?_
          rintro r w8 ⟨rfl, hb⟩
          replace N := N.call hb
          clear hb
          go_wp2_with fail
          refine (nhealN N).mono ?_
          clear N
          rintro r w9 ⟨rfl, N, -⟩
          have a1 : ¬ (p : Int) + 1 = 0 := by omega
          have hrr : Int.tmod (k : Int) ((p : Int) + 1) = ((k % (p + 1) : Nat) : Int) := by rw [Int.tmod_eq_emod_of_nonneg (by omega)]; simp
          have hrl : k % (p + 1) < p + 1 := Nat.mod_lt _ (by omega)
          generalize k % (p + 1) = kk at hrr hrl
          go_wp2_with fail
          have t4 : Calls Try.prog 39 #[.pointer (some ⟨w.heap.size, 0, none⟩), .int .i64 (kk : Int)] w9 fun e w' => ∃ u, e = .returned (.tuple #[.agg (mcA ⟨2, 1, 2, Vec.zero, u, 9, 3⟩), .bool true]) ∧ w'.ownsRow w.heap.size 68 14 u 0 (ecells []) ∧ NetTo w w9 w' [(w2.heap.size, 48, mcA ⟨2, 1, 2, Vec.zero, .slice none 0 0, 9, 3⟩)] w.heap.size _ _ ((ones (p + 1)).eraseIdx kk) fun _ => false := ntake_ok kk oneMs (ones_get _ _ hrl) N
          refine t4.mono ?_
          clear N t4
          rintro r w10 ⟨u, rfl, own, s10, X10, N, -⟩
          obtain ⟨A, c, rfl, -⟩ := own_open own
          rw [ones_erase _ _ hrl, Nat.add_sub_cancel] at N
          clear own hrr
          replace N := N.call ((Below.refl _ _).alloc (Nat.le_refl _) (.cells (mcA ⟨2, 1, 2, Vec.zero, .slice A 0 c, 9, 3⟩) 48 (0, 0)))
          have hx : X10.length = p := N.evs.len.trans (ones_len _)
          obtain ⟨A9, c9, rfl, -⟩ := own_open N.own
          rw [hx] at N
          clear hx
          go_wp2_with fail
          refine (nlenB A9 p c9 N.blk).mono ?_
          rintro r w11 ⟨rfl, hb⟩
          replace N := N.call hb
          clear hb
          obtain ⟨q0, f0, q1, f1, -⟩ := N.T.rules
          obtain ⟨l0, l1, -⟩ := N.T.lts
          go_wp2_with fail
          refine (nput_one N).mono ?_
          clear N q0 f0 q1 f1 l0 l1
          rintro r w12 ⟨rfl, s12, X12, N, -⟩
          rw [putC_ok _ hp2]
          rw [putL_ok _ hp2] at N
          have hx : X12.length = p + 1 := N.evs.len.trans (ones_len _)
          obtain ⟨A12, c12, rfl, -⟩ := own_open N.own
          rw [hx] at N
          clear hx
          go_wp2_with fail
          refine (nlenB A12 (p + 1) c12 N.blk).mono ?_
          rintro r w13 ⟨rfl, hb⟩
          replace N := N.call hb
          clear hb
          obtain ⟨q0, f0, q1, f1, -⟩ := N.T.rules
          obtain ⟨l0, l1, -⟩ := N.T.lts
          by_cases h9 : p + 1 < 128
          · have d9 : decide ((p : Int) + 1 < 128) = true := decide_eq_true (by omega)
            go_wp2_with fail
            refine (works23 _).mono ?_
            rintro r w14 ⟨rfl, hb⟩
            have T := N.T.call hb
            clear N q0 f0 q1 f1 l0 l1
            go_wp2_with fail
            go_ret
            exact ⟨rfl, T.below⟩
          · have d9 : decide ((p : Int) + 1 < 128) = false := decide_eq_false (by omega)
            go_wp2_with fail
            refine (nput_one N).mono ?_
            clear N q0 f0 q1 f1 l0 l1
            rintro r w14 ⟨rfl, s14, X14, N, -⟩
            rw [putC_full _ (by omega)]
            go_wp2_with fail
            refine (works23 _).mono ?_
            rintro r w15 ⟨rfl, hb⟩
            have T := N.T.call hb
            clear N
            go_wp2_with fail
            go_ret
            exact ⟨rfl, T.below⟩
end Go.Proofs.Ytnhjphmcdamoaaa
