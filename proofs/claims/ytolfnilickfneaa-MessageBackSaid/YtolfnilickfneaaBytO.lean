/-
  The walk of the document's package leatref06: Of.
-/
import Derived.Test.YtolfnilickfneaaGE
namespace Go.Proofs.Ytolfnilickfneaa
set_option linter.unusedVariables false
set_option linter.unusedSimpArgs false
open Go.RowKit
set_option maxRecDepth 100000

theorem ofL_slot (l : List Int) (k j : Nat) : ((l.take k).drop (8 * j)).take 8 = (l.drop (8 * j)).take (min 8 (k - 8 * j)) := by
  rw [List.drop_take, List.take_take]
theorem ofL_get (l : List Int) (k j : Nat) (hj : j < 6) : (ofL (l.take k)).get j = numL ((l.drop (8 * j)).take (min 8 (k - 8 * j))) := by
  rw [ofL, Vec.get_ofFn _ j hj, ofL_slot]
theorem ofL_succ (l : List Int) (k : Nat) (hk : k < 48) (x : Int) (h : l[k]? = some x) :
    (ofL (l.take k)).set (k / 8) ((ofL (l.take k)).get (k / 8) * 256 % 18446744073709551616 + x) = ofL (l.take (k + 1)) := Vec.ext_get fun j hj => by
  rw [Vec.get_set _ _ j _ (by omega) hj, ofL_get l (k + 1) j hj]
  split
  · rename_i e
    subst e
    rw [ofL_get l k _ (by omega), show min 8 (k + 1 - 8 * (k / 8)) = min 8 (k - 8 * (k / 8)) + 1 from by omega,
      numL_take (l.drop (8 * (k / 8))) _ x (by rw [List.getElem?_drop, show 8 * (k / 8) + min 8 (k - 8 * (k / 8)) = k from by omega]; exact h)]
  · rw [ofL_get l k j hj, show min 8 (k + 1 - 8 * j) = min 8 (k - 8 * j) from by omega]
set_option maxHeartbeats 400000 in
theorem rof (A : Option Addr) (cap : Nat) (l : List Int) (B : Nat) (w : World) (hL : BRows w B A l) (hB : B ≤ w.heap.size) (hn : l.length ≤ cap) (hcap : cap ≤ maxLen) (hby : ∀ c ∈ l, 0 ≤ c ∧ c ≤ 255) :
    Calls Try.prog 72 #[.slice A l.length cap] w fun e w' => e = .returned (.tuple #[.agg (vecA (vofP l).1), .int .i64 (vofP l).2]) ∧ Below w.heap.size w w' := by
  have hm1 : cap ≤ 9223372036854775807 := hcap
  go_enter Try.func72, Try.ntmps72
  go_wp2_with fail
  go_loopw [5] (fun i wr => ∃ k : Nat, k ≤ 48 ∧ k ≤ l.length ∧ i = .int .i64 k ∧ Trk w wr [(w.heap.size + 1, 24, vecA (ofL (l.take k))), (w.heap.size, 24, vecA Vec.zero)]) (fun i _ => 48 - (intOf i).toNat)
  case atStart => exact ⟨0, by omega, by omega, rfl, ((Trk.nil w).push (cs := vecA Vec.zero) rfl).push (cs := vecA Vec.zero) (g := w.heap.size + 1) (by simp)⟩
  case round =>
    obtain ⟨k, hk, hkl, rfl, T⟩ := hrel
    by_cases hlt : k < 48 ∧ k < l.length
    · obtain ⟨hk1, hk2⟩ := hlt
      obtain ⟨b, o, rfl, hbw, hc⟩ := hL (by rintro rfl; simp at hk2)
      obtain ⟨x, hx⟩ : ∃ x, l[k]? = some x := ⟨l[k], List.getElem?_eq_getElem hk2⟩
      obtain ⟨x0, x1⟩ := hby x (List.mem_of_getElem? hx)
      have hcell := (T.below.cell (p := ⟨b, o + k, none⟩) (by show b < _; omega)).trans (hc k x hx)
      have hS := ofL_succ l k hk1 x hx
      obtain ⟨m, hm⟩ : ∃ m, m = k / 8 := ⟨_, rfl⟩
      have i4 : Int.tdiv (k : Int) 8 = (m : Int) := by rw [Int.tdiv_eq_ediv_of_nonneg (by omega)]; omega
      have i5 : (m : Int) < 6 := by omega
      have i6 : (0 : Int) ≤ (m : Int) := by omega
      have i7 : m < 6 := by omega
      rw [← hm] at hS
      have i8 : IntKind.i64.wrap (m : Int) = (m : Int) := IntWalk.i64_in _ (by omega)
      generalize ofL (l.take k) = u at T hS
      have HS := Lib.hid hS
      have hg := vecA_get u m i7
      have HST := Lib.hid fun y => vecA_set u m y i7
      have i1 : (0 : Int) ≤ (k : Int) := by omega
      have i2 : (k : Int) < 48 := by omega
      have i3 : (k : Int) < (l.length : Int) := by omega
      have hor := or_byte (u.get m) x x0 (by omega)
      have hwr : IntKind.u64.wrap (u.get m * 256) = u.get m * 256 % 18446744073709551616 := IntKind.wrap_u64 _
      obtain ⟨q0, f0, -⟩ := T.rules
      have Hc := Lib.hid hc
      clear hx hc hL hm hS
      go_wp2_with fail
      go_still_tail 14, (by kernel_rfl)
      have T1 := T.drew
      change wpList _ _ _ _ _ wr.drew
      generalize wr.drew = w2 at T1
      obtain ⟨q0, f0, -⟩ := T1.rules
      go_wp2_with fail
      go_roundw
      case rel =>
        refine ⟨k + 1, by omega, by omega, by go_num, ?_⟩
        rw [← HS.out, ← HST.out]
        exact T1.set_ (Nat.le_succ _) ⟨by omega, trivial⟩ m _
      case measure => simp [intOf]; omega
    · by_cases h48 : l.length = 48
      · have hP : vofP l = if vmayB (ofL l) = true then (ofL l, 0) else (Vec.zero, 5) := by unfold vofP; rw [h48]; simp
        obtain rfl : k = 48 := by omega
        rw [List.take_of_length_le (by omega)] at T
        obtain ⟨mb, hmb⟩ : ∃ t, vmayB (ofL l) = t := ⟨_, rfl⟩
        have c1 := rmay (ofL l) mb hmb
        rw [hmb] at hP
        have HP := Lib.hid hP
        generalize ofL l = u at T c1 HP
        have C1 := Lib.hid c1
        have hne : ((l.length : Int) == 48) = true := by rw [beq_iff_eq]; omega
        have hne2 : ((l.length : Int) != 48) = false := by rw [bne, hne]; rfl
        have hge : ¬ ((48 : Nat) : Int) < 48 := by omega
        obtain ⟨q1, f1, q0, f0, -⟩ := T.rules
        clear hP c1 h48 hmb
        rcases (show mb = false ∨ mb = true from by cases mb <;> simp) with rfl | rfl
        all_goals
          go_wp2_with (go_at_call 16; (with_reducible refine (Calls.trk (C1.out _) T).mono ?_); rintro e w2 ⟨rfl, T2, s1, t1, s0, t0, -⟩)
          refine bodyPost_ret (v := .tuple #[.agg (vecA (vofP l).1), .int .i64 (vofP l).2]) (by rw [HP.out]; simp [results, Try.results72, go_sem, s0]) rfl ⟨rfl, ?_⟩
          exact below_set6 T2.below (by omega) _ _ _ _ _ _
      · have hP : vofP l = (Vec.zero, 5) := by unfold vofP; rw [if_neg (by simp [h48])]
        have HP := Lib.hid hP
        have hne : ((l.length : Int) == 48) = false := by rw [beq_eq_false_iff_ne]; omega
        have hne2 : ((l.length : Int) != 48) = true := by rw [bne, hne]; rfl
        have hge : (¬ (k : Int) < 48) ∨ ((k : Int) < 48 ∧ ¬ (k : Int) < (l.length : Int)) := by omega
        obtain ⟨q1, f1, q0, f0, -⟩ := T.rules
        clear hP h48 hlt
        rcases hge with hge | ⟨hge, hge2⟩
        all_goals
          go_wp2_with fail
          refine bodyPost_ret (v := .tuple #[.agg (vecA (vofP l).1), .int .i64 (vofP l).2]) (by rw [HP.out]; simp [results, Try.results72, go_sem, q0]) rfl ⟨rfl, ?_⟩
          exact below_set6 T.below (by omega) _ _ _ _ _ _
end Go.Proofs.Ytolfnilickfneaa
