/-
  The walk of the document's package leatref07: May.
-/
import Derived.Test.YtgbbhkdaalnchaaRtA
import Derived.Deep.DeepCutAuto
import Derived.Deep.CutBlock
namespace Go.Proofs.Ytgbbhkdaalnchaa
set_option linter.unusedVariables false
set_option linter.unusedSimpArgs false
open Go.RowKit Go
set_option maxRecDepth 100000

def SomeBool (w : World) (e : Ending) (w' : World) : Prop := ∃ b : Bool, e = .returned (.bool b) ∧ Below w.heap.size w w'
theorem r7number' (x : Int) (b : Bool) (h : numB x = b) (w : World) : Calls Try.prog 92 #[.int .i64 x] w fun e w' => e = .returned (.bool b) ∧ w' = w := by
  subst h; exact (r7number x w).mono fun _ _ ⟨h1, h2⟩ => ⟨h1, h2.symm⟩
theorem rmay7 (f : Nat → Int) (w : World) : Calls Try.prog 91 #[.agg (rtA f)] w (SomeBool w) := by
  go_enter Try.func91, Try.ntmps91
  go_wp2_with fail
  have T0 : Trk w _ [(w.heap.size, 110, rtA f)] := (Trk.nil w).push (t := 110) (cs := rtA f) rfl
  generalize w.alloc _ = W at T0 ⊢
  go_loopw [3, 4] (fun o j wr => ∃ (m : Nat) (x : Int), m ≤ 6 ∧ j = .int .i64 m ∧ o = .int .i64 x ∧ Trk w wr [(w.heap.size, 110, rtA f)]) (fun _ j _ => 6 - (intOf j).toNat)
  case atStart => exact ⟨0, _, by omega, rfl, rfl, T0⟩
  case round =>
    obtain ⟨m, x, hm, rfl, rfl, T⟩ := hrel
    clear T0
    obtain ⟨wo, rfl⟩ : ∃ wo : World, wo = wr := ⟨_, rfl⟩
    by_cases hlt : m < 6
    · obtain ⟨q, -, -⟩ := T.rules
      have m0 : (0 : Int) ≤ (m : Int) := by omega
      have m6 : (m : Int) < 6 := by omega
      have hd : decide ((m : Int) < 6) = true := by simp; omega
      have c0 := rtA_get f m (by omega)
      have c1 := rtA_get f (6 + m) (by omega)
      have c2 := rtA_get f (12 + m) (by omega)
      have c3 := rtA_get f (18 + m * 6 + m) (by omega)
      obtain ⟨b0, h0⟩ : ∃ b, numB (f m) = b := ⟨_, rfl⟩
      obtain ⟨b1, h1⟩ : ∃ b, numB (f (6 + m)) = b := ⟨_, rfl⟩
      obtain ⟨b2, h2⟩ : ∃ b, numB (f (12 + m)) = b := ⟨_, rfl⟩
      have C0 := Lib.hid (fun x W => r7number' x _ rfl W)
      go_upto_region 5 with fail
      go_cut [52] (fun s wx => (∃ b, s = .bool b) ∧ Trk w wx [(w.heap.size, 110, rtA f)])
      case first =>
        have d1 : ∃ b, decide (f (6 + m) < f (12 + m)) = b := ⟨_, rfl⟩
        have d2 : ∃ b, (f (18 + m * 6 + m) != 0) = b := ⟨_, rfl⟩
        obtain ⟨b3, h3⟩ := d1
        obtain ⟨b4, h4⟩ := d2
        rcases (show b0 = false ∨ b0 = true from by cases b0 <;> simp) with rfl | rfl
        rotate_left
        rcases (show b1 = false ∨ b1 = true from by cases b1 <;> simp) with rfl | rfl
        rotate_left
        rcases (show b2 = false ∨ b2 = true from by cases b2 <;> simp) with rfl | rfl
        rotate_left
        rcases (show b3 = false ∨ b3 = true from by cases b3 <;> simp) with rfl | rfl
        rcases (show b4 = false ∨ b4 = true from by cases b4 <;> simp) with rfl | rfl
        all_goals
          go_quiet ((go_at_call 92; exact Calls.quiet_of_same (C0.out _ _)))
          go_wp2_with fail
          go_meet
          exact ⟨⟨_, rfl⟩, T.drewN _⟩
      case rest =>
        obtain ⟨⟨b, rfl⟩, T2⟩ := hcut
        clear T q c0 c1 c2 c3 C0
        cases b with
        | true =>
          go_wp2_with fail
          go_ret
          exact ⟨_, rfl, T2.below⟩
        | false =>
          obtain ⟨q, -, -⟩ := T2.rules
          have c0 := rtA_get f m (by omega)
          go_wp2_with fail
          clear q c0
          go_loopw [5] (fun j wr => ∃ n : Nat, n ≤ 6 ∧ j = .int .i64 n ∧ Trk w wr [(w.heap.size, 110, rtA f)]) (fun j _ => 6 - (intOf j).toNat)
          case atStart => exact ⟨0, by omega, rfl, T2⟩
          case round =>
            obtain ⟨n, hn, rfl, T3⟩ := hrel
            clear T2
            by_cases hltn : n < 6
            · obtain ⟨q, -, -⟩ := T3.rules
              have n0 : (0 : Int) ≤ (n : Int) := by omega
              have n6 : (n : Int) < 6 := by omega
              have hdn : decide ((n : Int) < 6) = true := by simp; omega
              have c0 := rtA_get f (18 + m * 6 + n) (by omega)
              obtain ⟨b0, h0⟩ : ∃ b, numB (f (18 + m * 6 + n)) = b := ⟨_, rfl⟩
              have C0 := Lib.hid (r7number' _ _ h0)
              clear h0
              rcases (show b0 = false ∨ b0 = true from by cases b0 <;> simp) with rfl | rfl
              · go_wp2_with (go_at_call 92; (with_reducible refine (C0.out _).mono ?_); rintro r w4 ⟨rfl, rfl⟩)
                go_ret
                exact ⟨_, rfl, T3.below⟩
              · go_wp2_with (go_at_call 92; (with_reducible refine (C0.out _).mono ?_); rintro r w4 ⟨rfl, rfl⟩)
                go_roundw
                case rel => exact ⟨n + 1, by omega, by go_num, T3⟩
                case measure => simp [intOf]; omega
            · obtain rfl : n = 6 := by omega
              go_wp2_with fail
              go_roundw
              case rel => exact ⟨m + 1, _, by omega, by go_num, rfl, T3⟩
              case measure => simp [intOf]; omega
    · obtain rfl : m = 6 := by omega
      go_wp2_with fail
      rw [show ((6 : Nat) : Int) = 6 from rfl]
      go_loopw [6] (fun j wr => ∃ n : Nat, 1 ≤ n ∧ n ≤ 7 ∧ j = .int .i64 n ∧ Trk w wr [(w.heap.size, 110, rtA f)]) (fun j _ => 7 - (intOf j).toNat)
      case atStart => exact ⟨1, by omega, by omega, rfl, T⟩
      case round =>
        obtain ⟨n, hn1, hn, rfl, T3⟩ := hrel
        clear T
        by_cases hltn : n ≤ 6
        · have HR := Lib.hid (T3.blk _ _ _ List.mem_cons_self).rng
          have hdn : decide ((n : Int) ≤ 6) = true := by simp; omega
          obtain ⟨k, rfl⟩ : ∃ k, n = k + 1 := ⟨n - 1, by omega⟩
          have C1 := Lib.hid (rlocal f k (by omega))
          have e1 : (((k + 1 : Nat) : Int)) = (k : Int) + 1 := by omega
          rw [e1] at hdn ⊢
          have k6 : (k : Int) + 1 ≤ 7 := by omega
          have k0 : (0 : Int) ≤ (k : Int) := by omega
          go_wp2_with (refine wpList_load_arr rfl 110 (.tmp 1) rfl w.heap.size 0 rfl (rtA f) _ HR.out Try.underlying110 rfl (size_rt f) ?_)
          refine (C1.out _).mono ?_
          rintro r w4 ⟨x, rfl, hb4⟩
          have T4 := T3.call hb4
          clear T3 hb4 HR
          by_cases hx : x < 0
          · have dx : decide (x < 0) = true := decide_eq_true hx
            go_wp2_with fail
            go_ret
            exact ⟨_, rfl, T4.below⟩
          · have dx : decide (x < 0) = false := decide_eq_false hx
            go_wp2_with fail
            go_roundw
            case rel => exact ⟨k + 2, by omega, by omega, by go_num, T4⟩
            case measure => simp [intOf]; omega
        · obtain rfl : n = 7 := by omega
          go_wp2_with fail
          go_ret
          exact ⟨_, rfl, T3.below⟩
end Go.Proofs.Ytgbbhkdaalnchaa
