/-
  The walk of package event: All.
-/
import Derived.Test.YtolfnilickfneaaGH
import Derived.Test.YtolfnilickfneaaGB
import Derived.Test.YtolfnilickfneaaGC
import Derived.Deep.LoopGhost
namespace Go.Proofs.Ytolfnilickfneaa
set_option linter.unusedVariables false
set_option linter.unusedSimpArgs false
open Go.RowKit

set_option maxHeartbeats 2000000 in
theorem eall (A : Option Addr) (cap : Nat) (l : List Int) (B : Nat) (w : World) (hL : BRows w B A l) (hB : B ≤ w.heap.size) (hn : l.length ≤ cap) (hm : cap ≤ maxLen) (hl : l.length ≤ 1000000) (hby : ∀ c ∈ l, 0 ≤ c ∧ c ≤ 255) :
    Calls Try.prog 30 #[.slice A l.length cap] w (GivesEI (allE l).1 (allE l).2 w) := by
  have hm1 : cap ≤ 9223372036854775807 := hm
  have H := Lib.hid fun (at_ : Int) (W : World) (hW : Below w.heap.size w W) a0 a1 => etake A cap l B at_ W (hL.below (hW.mono hB)) (Nat.le_trans hB hW.size) hn hm hby a0 a1
  clear hL hby
  go_enter Try.func30, Try.ntmps30
  go_wp2_with fail
  go_loopw [4, 5] (fun u i wr => ∃ (k n : Nat), n = 91 * k ∧ n ≤ l.length ∧ i = .int .i64 n ∧ (∀ j, j < k → emayB (readAt l (91 * j)) = true) ∧ wr.ownsRow w.heap.size 41 14 u k (ecells (evsAt l k)) ∧ Below w.heap.size w wr) (fun _ i _ => l.length - (intOf i).toNat)
  case atStart => exact ⟨0, 0, rfl, by omega, rfl, fun j hj => absurd hj (by omega), World.ownsRow_nil _ _ _ _, Below.refl _ _⟩
  case round =>
    obtain ⟨k, n, hk, hn2, rfl, hmay, hown, hb⟩ := hrel
    have HM := Lib.hid hmay
    have HK := Lib.hid hk
    clear hmay
    by_cases hlt : n < l.length
    · by_cases hs : l.length < n + 91
      · have hT := takeE_short (l := l) (at_ := n) (by omega) (by omega) (by omega)
        have HR := Lib.hid (show allE l = ([], 5) from allE_no (goodB_short (k := k) (by omega) (by omega)))
        have c1 := H.out n wr hb (by omega) (by omega)
        rw [hT] at c1
        have c1 : Calls Try.prog 28 #[.slice A l.length cap, .int .i64 n] wr (fun e w' => e = .returned (.tuple #[.agg (evA Ev.zero), .int .i64 0, .int .i64 5]) ∧ Below wr.heap.size wr w') := c1
        have C1 := Lib.hid c1
        clear c1 hT hk
        go_wp2_with fail
        refine C1.out.mono ?_
        rintro r w2 ⟨rfl, hb2⟩
        go_wp2_with fail
        go_ret2
        rw [HR.out]
        exact ⟨_, rfl, World.ownsRow_nil _ _ _ _, (hb.trans (hb2.mono hb.size)).alloc (Nat.le_trans hb.size hb2.size) _⟩
      · obtain ⟨y, hy⟩ : ∃ y, emayB (readAt l n) = y := ⟨_, rfl⟩
        have c1 := H.out n wr hb (by omega) (by omega)
        rcases (show y = false ∨ y = true from by cases y <;> simp) with rfl | rfl
        · rw [takeE_no (by omega) hy] at c1
          have HR := Lib.hid (show allE l = ([], 5) from allE_no (goodB_no (k := k) (by omega) (by rw [← hk]; exact hy)))
          have c1 : Calls Try.prog 28 #[.slice A l.length cap, .int .i64 n] wr (fun e w' => e = .returned (.tuple #[.agg (evA Ev.zero), .int .i64 0, .int .i64 5]) ∧ Below wr.heap.size wr w') := c1
          have C1 := Lib.hid c1
          clear c1 hk hy
          go_wp2_with fail
          refine C1.out.mono ?_
          rintro r w2 ⟨rfl, hb2⟩
          go_wp2_with fail
          go_ret2
          rw [HR.out]
          exact ⟨_, rfl, World.ownsRow_nil _ _ _ _, (hb.trans (hb2.mono hb.size)).alloc (Nat.le_trans hb.size hb2.size) _⟩
        · rw [takeE_yes (by omega) hy] at c1
          obtain ⟨X, hX⟩ : ∃ X, X = readAt l n := ⟨_, rfl⟩
          rw [← hX] at c1 hy
          have c1 : Calls Try.prog 28 #[.slice A l.length cap, .int .i64 n] wr (fun e w' => e = .returned (.tuple #[.agg (evA X), .int .i64 ((n : Int) + 91), .int .i64 0]) ∧ Below wr.heap.size wr w') := c1
          have C1 := Lib.hid c1
          have HX := Lib.hid hX
          have HY := Lib.hid hy
          have hlk : (evsAt l k).length = k := evsAt_length l k
          generalize ho : evsAt l k = out at hown hlk
          have HO := Lib.hid ho
          have HLK := Lib.hid hlk
          obtain rfl : out.length = k := HLK.out
          clear c1 hX hy hk ho
          go_wp2_with fail
          refine C1.out.mono ?_
          rintro r w2 ⟨rfl, hb2⟩
          have hown2 := (ownsRow_below hown hb2).alloc (.cells (evA X) 41)
          have hbb := (hb.trans (hb2.mono hb.size)).alloc (Nat.le_trans hb.size hb2.size) (.cells (evA X) 41)
          go_upto_region 7 with fail
          have hBx : Blk (w2.alloc (.cells (evA X) 41)) w2.heap.size 41 (evA X) := Blk.new _ _ _
          have hlx := hBx.lt
          obtain ⟨qx, fx⟩ := hBx.rules
          generalize w2.alloc (.cells (evA X) 41) = w3 at hown2 hbb qx fx hlx ⊢
          clear hBx
          go_wp2_with (at_builtin; refine append_ev _ rfl (.tmp 22) (.tmp 24) rfl w.heap.size _ out X rfl (hown2.alloc _) w3.heap.size rfl (Blk.new _ _ _) (by have := HK.out; omega) (by have := hbb.size; simp; omega) ?_; intro v' w' hown' hb')
          go_roundw
          case rel =>
            refine ⟨out.length + 1, n + 91, by have := HK.out; omega, by omega, by go_num, fun j hj => ?_, ?_, (hbb.alloc hbb.size _).trans hb'⟩
            · by_cases hj2 : j < out.length
              · exact HM.out j hj2
              · obtain rfl : j = out.length := by omega
                rw [← HK.out, ← HX.out]; exact HY.out
            · rw [evsAt_succ, HO.out, ← HK.out, ← HX.out]
              simpa using hown'
          case measure => simp [intOf]; omega
    · obtain rfl : n = l.length := by omega
      have HR := Lib.hid (show allE l = (evsAt l k, 0) from by
        rw [allE_yes (goodB_yes hk.symm HM.out), hk, Nat.mul_div_cancel_left _ (by omega)])
      clear hk HK
      go_wp2_with fail
      go_ret2
      rw [HR.out]
      exact ⟨_, rfl, by rw [evsAt_length]; exact hown, hb⟩
end Go.Proofs.Ytolfnilickfneaa
