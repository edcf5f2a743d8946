/-
  The walk of OrderPlays.
-/
import Derived.Test.YtbddjnnanbjgfaaOL
namespace Go.Proofs.Ytbddjnnanbjgfaa
open Go.RowKit

theorem rlate' (v : Vec) (e : Ev) (hv : e.ok) (b : Bool) (h : lateB v e = b) (w : World) : Calls Try.prog 34 #[.agg (vecA v), .agg (evA e)] w fun r w' => r = .returned (.bool b) ∧ Below w.heap.size w w' := by
  subst h; exact rlate v e hv w
set_option maxHeartbeats 4000000 in
theorem oplays_law (v : Vec) (ov : v.ok) (x : Ev) (ox : x.ok) (A : Option Addr) (c : Nat) (L : List Ev) (w : World) (hL : ERows w w.heap.size A L) (hc : L.length ≤ c) (hm : c ≤ maxLen) (okL : ∀ e ∈ L, e.ok) :
    Calls Try.prog 5 #[.agg (vecA v), .agg (evA x), .slice A L.length c] w fun r w' => r = .returned (.bool true) ∧ Below w.heap.size w w' := by
  have hm1 : c ≤ 9223372036854775807 := hm
  by_cases hn : 100 < L.length
  · go_enter Try.func5, Try.ntmps5
    go_wp2_with (go_at_call 28; (refine (works10 _).mono ?_); rintro r w1 ⟨rfl, hb⟩)
    go_ret
    exact ⟨rfl, (((Below.refl _ _).alloc (Nat.le_refl _) _).alloc (by simp) _).trans (hb.mono (by simp; omega))⟩
  obtain ⟨rb, hrb⟩ : ∃ b, readyB v x = b := ⟨_, rfl⟩
  obtain ⟨lb, hlb⟩ : ∃ b, lateB v x = b := ⟨_, rfl⟩
  have C1 := Lib.hid (oready' v x ox rb hrb)
  have C2 := Lib.hid (rready' v ov x ox rb hrb)
  have C3 := Lib.hid (olate' v x ox lb hlb)
  have C4 := Lib.hid (rlate' v x ox lb hlb)
  have hS : ∀ A' c' B W, ERows W B A' L → B ≤ W.heap.size → L.length ≤ c' → c' ≤ maxLen → Calls Try.prog 29 #[.slice A' L.length c'] W (GivesEI (sortS L) (L.length - (sortS L).length) W) := fun A' c' B W h1 h2 h3 h4 => osort A' c' L B W h1 h2 h3 h4 (by omega) okL
  have hS2 : ∀ A' c' B W, ERows W B A' L → B ≤ W.heap.size → L.length ≤ c' → c' ≤ maxLen → Calls Try.prog 30 #[.slice A' L.length c'] W (GivesEI (sortS L) (L.length - (sortS L).length) W) := fun A' c' B W h1 h2 h3 h4 => rsort A' c' L B W h1 h2 h3 h4 (by omega) okL
  generalize sortS L = S at hS hS2
  generalize (L.length : Int) - (S.length : Int) = m at hS hS2
  have HS := Lib.hid hS
  have HS2 := Lib.hid hS2
  have HSM := Lib.hid fun (M : List Ev) (A1 A2 : Option Addr) (c1 c2 B : Nat) (W : World) (h1 : ERows W B A1 M) (h2 : ERows W B A2 M) (hB : B ≤ W.heap.size) (hc1 : M.length ≤ c1) (hm1 : c1 ≤ maxLen) (hc2 : M.length ≤ c2) (hm2 : c2 ≤ maxLen) => by
    have h := rsame10 A1 A2 c1 c2 B M M W h1 h2 hB hc1 hm1 hc2 hm2
    rw [show decide (M = M) = true from by simp] at h
    exact h
  clear hS hS2 hrb hlb okL ox ov
  go_enter Try.func5, Try.ntmps5
  go_upto_region 3 with fail
  have T0 : Trk w _ _ := ((Trk.nil w).push (t := 24) (cs := vecA v) rfl).push (t := 44) (cs := evA x) (g := w.heap.size + 1) (by simp)
  generalize (w.alloc _).alloc _ = W0 at T0 ⊢
  have hL0 : ERows W0 w.heap.size A L := hL.below T0.below
  have hw0 := T0.below.size
  go_wp2_with (at_builtin; refine append_evs _ rfl (.tmp 16) (.tmp 17) rfl W0.heap.size _ [] L rfl ?h1 A c w.heap.size rfl ?h2 ?h3 ?h4 ?_; (case h1 => exact World.ownsRow_made W0 #[] 0 (Nat.le_refl _) (by decide) rfl); (case h2 => exact hL0.below ((Below.refl _ _).alloc hw0 _)); (case h3 => simp; omega); (case h4 => simp); intro v' w1 hown1 hb1)
  rw [List.nil_append] at hown1
  obtain ⟨A1, c1, rfl, hc1, hm1', hR1⟩ := own_open hown1
  have T1 := T0.callB (((Below.refl _ _).alloc (Nat.le_refl _) _).trans hb1) hw0 (by obtain ⟨a, b, -⟩ := T0.lts; exact ⟨a, b, trivial⟩)
  have hL1 : ERows w1 w.heap.size A L := hL.below T1.below
  clear hown1 hb1 T0 hL0
  go_wp2_with fail
  refine (HS.out A1 c1 w1.heap.size w1 hR1 (Nat.le_refl _) hc1 hm1').mono ?_
  rintro r w2 ⟨u2, rfl, hown2, hb2⟩
  obtain ⟨A2, c2, rfl, hc2, hm2, hR2⟩ := own_open hown2
  have T2 := T1.call hb2
  have hR1 : ERows w2 w2.heap.size A1 L := Rd.next hR1 hb2
  clear hown2 T1
  go_wp2_with fail
  refine (HS2.out A c w.heap.size w2 (hL.below T2.below) T2.below.size hc hm).mono ?_
  rintro r w3 ⟨u3, rfl, hown3, hb3⟩
  obtain ⟨A3, c3, rfl, hc3, hm3, hR3⟩ := own_open hown3
  have T3 := T2.call hb3
  have hR1 : ERows w3 w3.heap.size A1 L := Rd.next hR1 hb3
  have hR2 : ERows w3 w3.heap.size A2 S := Rd.next hR2 hb3
  have hRL : ERows w3 w3.heap.size A L := (Rd.below hL T3.below).mono T3.below.size
  have hs1 := fun (y : Later w3) => HSM.out S A2 A3 c2 c3 w3.heap.size y.w (hR2.below y.below) (Rd.below hR3 y.below) y.below.size hc2 hm2 hc3 hm3
  have hs2 := fun (y : Later w3) => HSM.out L A1 A c1 c w3.heap.size y.w (hR1.below y.below) (hRL.below y.below) y.below.size hc1 hm1' hc hm
  have H1 := Lib.hid hs1
  have H2 := Lib.hid hs2
  obtain ⟨q1, -, q0, -, -⟩ := T3.rules
  obtain ⟨l1, l0, -⟩ := T3.lts
  clear hown3 T2 hs1 hs2 hR1 hR2 hR3 hRL hL hL1 HS HS2 HSM
  go_wp2_with fail
  refine wp_region_later (by kernel_rfl) (by kernel_rfl) ?_
  repeat (go_big_quiet_step (first | (go_at_call 31; with_reducible exact Calls.later (C1.out _)) | (go_at_call 32; with_reducible exact Calls.later (C2.out _)) | (go_at_call 33; with_reducible exact Calls.later (C3.out _)) | (go_at_call 34; with_reducible exact Calls.later (C4.out _)) | (go_at_call 35; with_reducible exact Calls.later (H1.out _)) | (go_at_call 35; with_reducible exact Calls.later (H2.out _)) | (go_at_call 28; with_reducible exact Calls.later (works10 _))))
  refine wpQuiet_nil ?_
  rintro w4 ⟨y, rfl⟩
  have T4 := T3.call y.below
  generalize y.w = w4 at T4
  go_wp2_with fail
  go_ret
  exact ⟨rfl, T4.below⟩
end Go.Proofs.Ytbddjnnanbjgfaa
