/-
  The walks of the document's package leatref06: Bytes, Of.
-/
import Derived.Test.YtlbdlmgcblmeeaaByt
import Derived.Test.YtlbdlmgcblmeeaaVecS
import Derived.Outline
namespace Go.Proofs.Ytlbdlmgcblmeeaa
open Go.RowKit

theorem byte_of_shr (n : Int) (j : Nat) (h : j < 8) (k : Int) (hk : k = 56 - 8 * (j : Int)) : n / 2 ^ k.toNat % 256 = byteAt n j := by
  have : k.toNat = 56 - 8 * j := by omega
  rw [this]; exact byteAt_shr n j h
set_option maxHeartbeats 400000 in
theorem rbytes (v : Vec) (hv : v.ok) (w : World) : Calls Try.prog 28 #[.agg (vecA v)] w (GivesB (vecL v) w) := by
  go_enter Try.func28, Try.ntmps28
  go_wp2_with fail
  go_loopw [3, 4] (fun o i wr => ∃ k : Nat, k ≤ 6 ∧ i = .int .i64 k ∧ wr.ownsRow (w.heap.size + 1) 5 1 o ((vecL v).take (8 * k)).length (bcells ((vecL v).take (8 * k))) ∧ Trk w wr [(w.heap.size, 25, vecA v)]) (fun _ i _ => 6 - (intOf i).toNat)
  case atStart => exact ⟨0, by omega, rfl, World.ownsRow_nil _ _ _ _, (Trk.nil w).push rfl⟩
  case round =>
    obtain ⟨k, hk, rfl, hown, T⟩ := hrel
    by_cases hlt : k < 6
    · obtain ⟨n0, n1⟩ := hv k hlt
      have hkd : decide ((k : Int) < 6) = true := by simp; omega
      have HG := vecA_get v k hlt
      have HT := Lib.hid (vecL_take v k hlt)
      generalize v.get k = n at HG HT n0 n1
      have HG := Lib.hid HG
      go_wp2_with fail
      go_loopw [3, 5] (fun o i w2 => ∃ (j : Nat) (c : Int), j ≤ 8 ∧ c = 56 - 8 * (j : Int) ∧ i = .int .i64 c ∧ w2.ownsRow (w.heap.size + 1) 5 1 o ((vecL v).take (8 * k + j)).length (bcells ((vecL v).take (8 * k + j))) ∧ Trk w w2 [(w.heap.size, 25, vecA v)]) (fun _ i _ => (intOf i + 8).toNat)
      case atStart => exact ⟨0, 56, by omega, rfl, rfl, hown, T⟩
      case round =>
        obtain ⟨j, c, hj, hc, rfl, hown2, T2⟩ := hrel
        clear hown T
        by_cases hj8 : j < 8
        · have hB := Lib.hid (byte_of_shr n j hj8 c hc)
          have hW := Lib.hid (wordL_take n j hj8)
          have hsz := T2.lt
          have c0 : 0 ≤ c := by omega
          have c1 : c ≤ 56 := by omega
          have hlen : ((vecL v).take (8 * k + j)).length ≤ 48 := by rw [List.length_take, vecL_length]; omega
          generalize hl : (vecL v).take (8 * k + j) = l at hown2 hlen
          have HL := Lib.hid hl
          have HC := Lib.hid hc
          have hg := HG.out
          obtain ⟨q0, -, -⟩ := T2.rules
          clear hl hc
          go_wp2_with (first
            | (at_builtin; refine append_u8 _ rfl (.tmp 14) (.tmp 22) rfl (w.heap.size + 1) _ l _ rfl (hown2.alloc _) wr.heap.size rfl (Blk.new _ _ _) (by omega) (by simp; omega) ?_; intro v' w' hown' hb'))
          go_roundw
          case rel =>
            have e : (vecL v).take (8 * k + (j + 1)) = l ++ [n / 2 ^ c.toNat % 256] := by
              rw [HT.out (j + 1) (by omega), hW.out, ← List.append_assoc, ← HT.out j (by omega), HL.out, hB.out]
            refine ⟨j + 1, c - 8, by omega, by rw [HC.out]; omega, rfl, ?_, ?_⟩
            · rw [e]; exact hown'
            · exact (T2.alloc _).callB hb' (Nat.le_succ _) ⟨by omega, trivial⟩
          case measure => simp [intOf]; omega
        · obtain rfl : j = 8 := by omega
          obtain rfl : c = -8 := by omega
          go_wp2_with fail
          go_roundw
          case rel => exact ⟨k + 1, by omega, by go_num, by rw [Nat.mul_succ]; exact hown2, T2⟩
          case measure => simp [intOf]; omega
    · obtain rfl : k = 6 := by omega
      rw [List.take_of_length_le (by rw [vecL_length]; decide)] at hown
      go_wp2_with fail
      go_ret
      exact ⟨_, rfl, own_mono hown (Nat.le_succ _), T.below⟩

theorem ofL_slot (l : List Int) (k j : Nat) : ((l.take k).drop (8 * j)).take 8 = (l.drop (8 * j)).take (min 8 (k - 8 * j)) := by
  rw [List.drop_take, List.take_take]
theorem ofL_get (l : List Int) (k j : Nat) (hj : j < 6) : (ofL (l.take k)).get j = numL ((l.drop (8 * j)).take (min 8 (k - 8 * j))) := by
  rw [ofL, Vec.get_ofFn _ j hj, ofL_slot]
theorem ofL_succ (l : List Int) (k : Nat) (hk : k < 48) (x : Int) (h : l[k]? = some x) :
    (ofL (l.take k)).set (k / 8) ((ofL (l.take k)).get (k / 8) * 256 % 18446744073709551616 + x) = ofL (l.take (k + 1)) := Vec.ext_get fun j hj => by
  rw [Vec.get_set _ _ j _ (by omega) hj, ofL_get l (k + 1) j hj]
  split
  · rename_i e
    subst e
    rw [ofL_get l k _ (by omega), show min 8 (k + 1 - 8 * (k / 8)) = min 8 (k - 8 * (k / 8)) + 1 from by omega,
      numL_take (l.drop (8 * (k / 8))) _ x (by rw [List.getElem?_drop, show 8 * (k / 8) + min 8 (k - 8 * (k / 8)) = k from by omega]; exact h)]
  · rw [ofL_get l k j hj, show min 8 (k + 1 - 8 * j) = min 8 (k - 8 * j) from by omega]
set_option maxHeartbeats 400000 in
theorem rof (A : Option Addr) (cap : Nat) (l : List Int) (B : Nat) (w : World) (hL : BRows w B A l) (hB : B ≤ w.heap.size) (hn : l.length ≤ cap) (hcap : cap ≤ maxLen) (hby : ∀ c ∈ l, 0 ≤ c ∧ c ≤ 255) :
    Calls Try.prog 27 #[.slice A l.length cap] w fun e w' => e = .returned (.tuple #[.agg (vecA (vofP l).1), .int .i64 (vofP l).2]) ∧ Below w.heap.size w w' := by
  have hm1 : cap ≤ 9223372036854775807 := hcap
  go_enter Try.func27, Try.ntmps27
  go_wp2_with fail
  go_loopw [5] (fun i wr => ∃ k : Nat, k ≤ 48 ∧ k ≤ l.length ∧ i = .int .i64 k ∧ Trk w wr [(w.heap.size + 1, 25, vecA (ofL (l.take k))), (w.heap.size, 25, vecA Vec.zero)]) (fun i _ => 48 - (intOf i).toNat)
  case atStart => exact ⟨0, by omega, by omega, rfl, ((Trk.nil w).push (cs := vecA Vec.zero) rfl).push (cs := vecA Vec.zero) (g := w.heap.size + 1) (by simp)⟩
  case round =>
    obtain ⟨k, hk, hkl, rfl, T⟩ := hrel
    by_cases hlt : k < 48 ∧ k < l.length
    · obtain ⟨hk1, hk2⟩ := hlt
      obtain ⟨b, o, rfl, hbw, hc⟩ := hL (by rintro rfl; simp at hk2)
      obtain ⟨x, hx⟩ : ∃ x, l[k]? = some x := ⟨l[k], List.getElem?_eq_getElem hk2⟩
      obtain ⟨x0, x1⟩ := hby x (List.mem_of_getElem? hx)
      have hcell := (T.below.cell (p := ⟨b, o + k, none⟩) (by show b < _; omega)).trans (hc k x hx)
      have hS := ofL_succ l k hk1 x hx
      obtain ⟨m, hm⟩ : ∃ m, m = k / 8 := ⟨_, rfl⟩
      have i4 : Int.tdiv (k : Int) 8 = (m : Int) := by rw [Int.tdiv_eq_ediv_of_nonneg (by omega)]; omega
      have i5 : (m : Int) < 6 := by omega
      have i6 : (0 : Int) ≤ (m : Int) := by omega
      have i7 : m < 6 := by omega
      rw [← hm] at hS
      have i8 : IntKind.i64.wrap (m : Int) = (m : Int) := IntWalk.i64_in _ (by omega)
      generalize ofL (l.take k) = u at T hS
      have HS := Lib.hid hS
      have hg := vecA_get u m i7
      have HST := Lib.hid fun y => vecA_set u m y i7
      have i1 : (0 : Int) ≤ (k : Int) := by omega
      have i2 : (k : Int) < 48 := by omega
      have i3 : (k : Int) < (l.length : Int) := by omega
      have hor := or_byte (u.get m) x x0 (by omega)
      have hwr : IntKind.u64.wrap (u.get m * 256) = u.get m * 256 % 18446744073709551616 := IntKind.wrap_u64 _
      obtain ⟨q0, f0, -⟩ := T.rules
      have Hc := Lib.hid hc
      clear hx hc hL hm hS
      go_wp2_with fail
      go_still_tail 14, (by kernel_rfl)
      have T1 := T.drew
      change wpList _ _ _ _ _ wr.drew
      generalize wr.drew = w2 at T1
      obtain ⟨q0, f0, -⟩ := T1.rules
      go_wp2_with fail
      go_roundw
      case rel =>
        refine ⟨k + 1, by omega, by omega, by go_num, ?_⟩
        rw [← HS.out, ← HST.out]
        exact T1.set_ (Nat.le_succ _) ⟨by omega, trivial⟩ m _
      case measure => simp [intOf]; omega
    · by_cases h48 : l.length = 48
      · have hP : vofP l = if vmayB (ofL l) = true then (ofL l, 0) else (Vec.zero, 5) := by unfold vofP; rw [h48]; simp
        obtain rfl : k = 48 := by omega
        rw [List.take_of_length_le (by omega)] at T
        obtain ⟨mb, hmb⟩ : ∃ t, vmayB (ofL l) = t := ⟨_, rfl⟩
        have c1 := rmay (ofL l) mb hmb
        rw [hmb] at hP
        have HP := Lib.hid hP
        generalize ofL l = u at T c1 HP
        have C1 := Lib.hid c1
        have hne : ((l.length : Int) == 48) = true := by rw [beq_iff_eq]; omega
        have hne2 : ((l.length : Int) != 48) = false := by rw [bne, hne]; rfl
        have hge : ¬ ((48 : Nat) : Int) < 48 := by omega
        obtain ⟨q1, f1, q0, f0, -⟩ := T.rules
        clear hP c1 h48 hmb
        rcases (show mb = false ∨ mb = true from by cases mb <;> simp) with rfl | rfl
        all_goals
          go_wp2_with (go_at_call 19; (with_reducible refine (Calls.trk (C1.out _) T).mono ?_); rintro e w2 ⟨rfl, T2, s1, t1, s0, t0, -⟩)
          refine bodyPost_ret (v := .tuple #[.agg (vecA (vofP l).1), .int .i64 (vofP l).2]) (by rw [HP.out]; simp [results, Try.results27, go_sem, s0]) rfl ⟨rfl, ?_⟩
          exact below_set6 T2.below (by omega) _ _ _ _ _ _
      · have hP : vofP l = (Vec.zero, 5) := by unfold vofP; rw [if_neg (by simp [h48])]
        have HP := Lib.hid hP
        have hne : ((l.length : Int) == 48) = false := by rw [beq_eq_false_iff_ne]; omega
        have hne2 : ((l.length : Int) != 48) = true := by rw [bne, hne]; rfl
        have hge : (¬ (k : Int) < 48) ∨ ((k : Int) < 48 ∧ ¬ (k : Int) < (l.length : Int)) := by omega
        obtain ⟨q1, f1, q0, f0, -⟩ := T.rules
        clear hP h48 hlt
        rcases hge with hge | ⟨hge, hge2⟩
        all_goals
          go_wp2_with fail
          refine bodyPost_ret (v := .tuple #[.agg (vecA (vofP l).1), .int .i64 (vofP l).2]) (by rw [HP.out]; simp [results, Try.results27, go_sem, q0]) rfl ⟨rfl, ?_⟩
          exact below_set6 T.below (by omega) _ _ _ _ _ _
end Go.Proofs.Ytlbdlmgcblmeeaa
