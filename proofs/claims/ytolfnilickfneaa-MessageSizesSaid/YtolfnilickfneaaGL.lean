/-
  The walk of package message: Get, of bytes that are too short.
  message.Get, whole.
  The walk of leatlaw20.works.
-/
import Derived.Test.YtolfnilickfneaaGJ
import Derived.Test.YtolfnilickfneaaRl
import Derived.Test.YtolfnilickfneaaMf
import Derived.Test.YtolfnilickfneaaMg
import Derived.Test.YtolfnilickfneaaMh
import Derived.Test.YtolfnilickfneaaMi
import Derived.Test.YtolfnilickfneaaMj
import Derived.Test.YtolfnilickfneaaMs
namespace Go.Proofs.Ytolfnilickfneaa
set_option linter.unusedVariables false
set_option linter.unusedSimpArgs false
open Go.RowKit
set_option maxRecDepth 100000

set_option maxHeartbeats 4000000 in
theorem mget_short (A : Option Addr) (n cap : Nat) (w : World) (hn : n ≤ cap) (hm : cap ≤ maxLen) (h : n < 51) :
    Calls Try.prog 40 #[.slice A n cap] w (GivesM (Ms.zero, 5) w) := by
  have hm1 : cap ≤ 9223372036854775807 := hm
  go_enter Try.func40, Try.ntmps40
  have T0 : Trk w _ [(w.heap.size, 54, mcA Mc.zero)] := (Trk.nil w).push (t := 54) (cs := mcA Mc.zero) rfl
  go_wp2_with fail
  refine bodyPost_ret (v := .tuple #[.agg (mcA Mc.zero), .int .i64 5]) (results_get (s1 := 2) (s2 := 3) (by kernel_rfl) _ w.heap.size Mc.zero 5 _ rfl rfl (T0.blk _ _ _ List.mem_cons_self)) rfl ?_
  exact ⟨.slice none 0 0, rfl, World.ownsRow_nil _ _ _ _, T0.below⟩
end Go.Proofs.Ytolfnilickfneaa
namespace Go.Proofs.Ytolfnilickfneaa
set_option linter.unusedVariables false
set_option linter.unusedSimpArgs false
open Go.RowKit

theorem mget (A : Option Addr) (cap : Nat) (b : List Int) (B : Nat) (w : World) (hL : BRows w B A b) (hB : B ≤ w.heap.size) (hn : b.length ≤ cap) (hm : cap ≤ maxLen) (hlen : b.length ≤ 10000) (hby : ∀ c ∈ b, 0 ≤ c ∧ c ≤ 255) :
    Calls Try.prog 40 #[.slice A b.length cap] w (GivesM (getM b) w) := by
  by_cases h51 : 51 ≤ b.length
  · obtain ⟨b0, o, rfl, hlt, hc⟩ := hL (by rintro rfl; simp at h51)
    have hb : b0 < w.heap.size := by omega
    by_cases k1 : b.getD 0 0 = 1
    · by_cases hcap : cap = 51
      · exact mget_sync51 b0 o cap b w hc hb hn hm hby h51 hlen hcap k1
      · exact mget_sync b0 o cap b w hc hb hn hm hby h51 hlen hcap k1
    · by_cases k2 : b.getD 0 0 = 2
      · by_cases h59 : b.length < 59
        · by_cases hcap : cap = 51
          · exact mget_none51 b0 o cap b w hc hb hn hm hby h51 hlen hcap k2 h59
          · exact mget_none b0 o cap b w hc hb hn hm hby h51 hlen hcap k2 h59
        · by_cases h67 : b.length < 67
          · exact mget_half b0 o cap b w hc hb hn hm hby h51 hlen (by omega) k2 (by omega) h67
          · exact mget_ask b0 o cap b w hc hb hn hm hby h51 hlen (by omega) k2 (by omega)
      · by_cases hcap : cap = 51
        · exact mget_kind51 b0 o cap b w hc hb hn hm hby h51 hlen hcap k1 k2
        · exact mget_kind b0 o cap b w hc hb hn hm hby h51 hlen hcap k1 k2
  · rw [getM_no fun h => h51 h.1]
    exact mget_short A b.length cap w hn hm (by omega)
end Go.Proofs.Ytolfnilickfneaa
namespace Go.Proofs.Ytolfnilickfneaa
set_option linter.unusedVariables false
set_option linter.unusedSimpArgs false
open Go.RowKit
set_option maxRecDepth 100000

def exMs : Ms := ⟨2, 1, 2, Vec.zero, [], 9, 3⟩
theorem exMs_ok : exMs.ok := ⟨by decide, by decide, by decide, Vec.ok_zero, (fun e he => by cases he), by decide, by decide⟩
theorem exMs_may : mmayB exMs = true := by decide +kernel
theorem getM_nil : getM [] = (Ms.zero, 5) := getM_no fun h => by simp at h
theorem erows_nil (w : World) (B : Nat) : ERows w B none [] := Rd.nil
set_option maxHeartbeats 4000000 in
theorem works20 (w : World) : Calls Try.prog 39 #[] w fun r w' => r = .returned (.bool true) ∧ Below w.heap.size w w' := by
  have c1 : ∀ W, Calls Try.prog 44 #[.agg (mcA ⟨2, 1, 2, Vec.zero, .slice none 0 0, 9, 3⟩)] W (GivesB (putM exMs) W) := fun W => mput exMs exMs_ok none 0 W (erows_nil W _) (Nat.le_refl _) (by decide)
  have c2 : ∀ (A : Option Addr) (cap : Nat) (W : World), BytesIs (putM exMs) (.slice A (putM exMs).length cap) W → Calls Try.prog 40 #[.slice A (putM exMs).length cap] W (fun e w' => ∃ u, e = .returned (.tuple #[.agg (mcA ⟨2, 1, 2, Vec.zero, u, 9, 3⟩), .int .i64 0]) ∧ w'.ownsRow W.heap.size 41 14 u 0 (ecells []) ∧ Below W.heap.size W w') := fun A cap W h => by
    obtain ⟨A', c', e, h1, h2, h3⟩ := h
    injection e with e1 e2 e3
    subst e1 e3
    have := mget A cap (putM exMs) W.heap.size W h3 (Nat.le_refl _) h1 h2 (by have := putM_length_le (m := exMs); omega) (putM_range exMs)
    rw [getM_putM exMs_ok exMs_may] at this
    exact this
  have c3 : ∀ W, Calls Try.prog 40 #[.slice none 0 0] W (fun e w' => ∃ u, e = .returned (.tuple #[.agg (mcA ⟨0, 0, 0, Vec.zero, u, 0, 0⟩), .int .i64 5]) ∧ w'.ownsRow W.heap.size 41 14 u 0 (ecells []) ∧ Below W.heap.size W w') := fun W => by
    have := mget none 0 [] W.heap.size W (fun h => absurd rfl h) (Nat.le_refl _) (Nat.le_refl _) (by decide) (by decide) (fun c hc => by cases hc)
    rw [getM_nil] at this
    exact this
  have c4 : ∀ W, Calls Try.prog 42 #[.agg (mcA ⟨2, 1, 2, Vec.zero, .slice none 0 0, 9, 3⟩)] W (fun r w' => r = .returned (.bool true) ∧ Below W.heap.size W w') := fun W => mmay' exMs exMs_ok true exMs_may none 0 W (erows_nil W _) (Nat.le_refl _) (by decide)
  have c5 : ∀ (A : Option Addr) (c : Nat) (W : World), c ≤ maxLen → Calls Try.prog 46 #[.agg (mcA ⟨2, 1, 2, Vec.zero, .slice A 0 c, 9, 3⟩), .agg (mcA ⟨2, 1, 2, Vec.zero, .slice none 0 0, 9, 3⟩)] W (fun r w' => r = .returned (.bool true) ∧ Below W.heap.size W w') := fun A c W hc => by
    have := rsame20 exMs exMs A none c 0 W ⟨rfl, fun h => absurd h (by decide)⟩ (erows_nil W _) (Nat.zero_le _) hc (Nat.le_refl _) (by decide)
    rw [show decide (exMs = exMs) = true from by simp] at this
    exact this
  have hlen : (putM exMs).length = 67 := by rw [putM_length exMs_may]; rfl
  have g0 : (putM exMs)[0]? = some 2 := by rw [putM_yes exMs_may]; rfl
  have g1 : (putM exMs)[1]? = some 1 := by rw [putM_yes exMs_may]; rfl
  have g2 : (putM exMs)[2]? = some 2 := by rw [putM_yes exMs_may]; rfl
  generalize putM exMs = M at c1 c2 hlen g0 g1 g2
  rw [hlen] at c2
  have C1 := Lib.hid c1
  have C2 := Lib.hid c2
  have C3 := Lib.hid c3
  have C4 := Lib.hid c4
  have C5 := Lib.hid c5
  have HL := Lib.hid hlen
  have G0 := Lib.hid g0
  have G1 := Lib.hid g1
  have G2 := Lib.hid g2
  clear c1 c2 c3 c4 c5 hlen g0 g1 g2
  go_enter Try.func39, Try.ntmps39
  go_wp2_with fail
  have T0 : Trk w _ [(w.heap.size, 54, mcA ⟨2, 1, 2, Vec.zero, .slice none 0 0, 9, 3⟩)] := (Trk.nil w).push (t := 54) (cs := mcA ⟨2, 1, 2, Vec.zero, .slice none 0 0, 9, 3⟩) rfl
  refine (C1.out _).mono ?_
  rintro r w1 ⟨u1, rfl, hown, hb1⟩
  have hbs := BytesIs.of_own hown
  obtain ⟨A, c, hu, hc, hm, hR⟩ := own_open hown
  rw [HL.out] at hu hc
  subst hu
  have T1 := T0.call hb1
  clear T0 hb1 hown hR
  go_wp2_with fail
  refine (C2.out A c w1 (by rw [← HL.out] at hbs; rw [← HL.out]; exact hbs)).mono ?_
  rintro r w2 ⟨u2, rfl, hown2, hb2⟩
  obtain ⟨A2, c2, rfl, hc2, hm2, -⟩ := own_open hown2
  have hbs2 := hbs.keep _ _ _ _ hb2
  have T2 := (T1.call hb2).push (t := 54) (cs := mcA ⟨2, 1, 2, Vec.zero, .slice A2 0 c2, 9, 3⟩) rfl
  have hbs3 := hbs2.keep _ _ _ _ ((Below.refl _ _).alloc (Nat.le_refl _) (.cells (mcA ⟨2, 1, 2, Vec.zero, .slice A2 0 c2, 9, 3⟩) 54))
  clear T1 hb2 hown2 hbs hbs2
  go_wp2_with fail
  refine (C3.out _).mono ?_
  rintro r w3 ⟨u3, rfl, hown3, hb3⟩
  obtain ⟨A3, c3, rfl, hc3, hm3, -⟩ := own_open hown3
  have hbs4 := hbs3.keep _ _ _ _ hb3
  have T3 := (T2.call hb3).push (t := 54) (cs := mcA ⟨0, 0, 0, Vec.zero, .slice A3 0 c3, 0, 0⟩) rfl
  have hbs5 := hbs4.keep _ _ _ _ ((Below.refl _ _).alloc (Nat.le_refl _) (.cells (mcA ⟨0, 0, 0, Vec.zero, .slice A3 0 c3, 0, 0⟩) 54))
  clear T2 hb3 hown3 hbs3 hbs4
  obtain ⟨q2, -, q1, -, q0, -, -⟩ := T3.rules
  obtain ⟨l2, l1, l0, -⟩ := T3.lts
  go_wp2_with fail
  refine (C4.out _).mono ?_
  rintro r w4 ⟨rfl, hb4⟩
  have T4 := T3.call hb4
  have hbs6 := hbs5.keep _ _ _ _ hb4
  clear q0 q1 q2 l0 l1 l2 T3 hb4 hbs5
  obtain ⟨q2, -, q1, -, q0, -, -⟩ := T4.rules
  obtain ⟨l2, l1, l0, -⟩ := T4.lts
  obtain ⟨A', c', hv, -, -, hr⟩ := hbs6
  injection hv with hv1 _ _
  subst hv1
  obtain ⟨bb, oo, rfl, hbb, hcc⟩ := hr (by rintro rfl; have := HL.out; cases this)
  have d0 : w4.cell? ⟨bb, oo, none⟩ = some (.int .u8 2) := hcc 0 2 G0.out
  have d1 := hcc 1 1 G1.out
  have d2 := hcc 2 2 G2.out
  clear hcc hr
  go_wp2_with fail
  refine (C5.out A2 c2 _ hm2).mono ?_
  rintro r w5 ⟨rfl, hb5⟩
  have T5 := T4.call hb5
  clear T4 hb5 q0 q1 q2 l0 l1 l2 d0 d1 d2
  go_wp2_with fail
  go_ret
  exact ⟨rfl, T5.below⟩
end Go.Proofs.Ytolfnilickfneaa
