/-
  The walks of the laws of chapter 10: two, works, OrderPlays.
-/
import Derived.Test.YtbddjnnanbjgfaaSrO
import Derived.Test.YtbddjnnanbjgfaaSm10
namespace Go.Proofs.Ytbddjnnanbjgfaa
set_option linter.unusedVariables false
set_option linter.unusedSimpArgs false
open Go.RowKit

def exE1 : Ev := ⟨1, 1, Vec.zero, 1, 0, 0, 5, 0, 0⟩
def exE2 : Ev := ⟨2, 1, ⟨1, 0, 0, 0, 0, 0⟩, 1, 0, 0, 5, 0, 0⟩
section
variable (ρ : Operand → Value) (dst : Option Tmp) (x y : Operand) (ty : TypeId) (pos : String) (after : Array Edge) (guard : Option (Nat × Bool))
@[go_sem ↓] theorem execOp_bs2_ev : execOp ρ { dst, op := .buildSlice 45 2 #[(0, x), (1, y)], type := ty, pos, after, guard } = bs2 45 (ρ x) (ρ y) := by simp [execOp, bs2]
end
@[go_sem] theorem run_bs2_ev (a b : Ev) (w : World) : (bs2 45 (.agg (evA a)) (.agg (evA b))).run Try.prog w = .ok (.value (.slice (some ⟨w.heap.size, 0, none⟩) 2 2)) (w.alloc (.cells (ecells [a, b]).toArray 44)) := by kernel_rfl
@[go_sem] theorem ev_putd (e : Ev) (d : Vec) : Array.foldl (fun (cs : Array Value) (x : Value × Nat) => cs.setIfInBounds (2 + x.snd) x.fst) (evA e) (vecA d).zipIdx 0 6 = evA { e with d := d } := by kernel_rfl
theorem two10 (w : World) : Calls Try.prog 48 #[] w fun r w' => ∃ u, r = .returned u ∧ w'.ownsRow w.heap.size 44 14 u 2 (ecells [exE2, exE1]) ∧ Below w.heap.size w w' := by
  go_enter Try.func48, Try.ntmps48
  go_wp2_with fail
  go_ret
  refine ⟨_, rfl, ?_, ?_⟩
  · exact ⟨rfl, .inr ⟨w.heap.size + 1 + 1, 2, (ecells [exE2, exE1]).toArray, rfl, by omega, Blk.new_at (by simp) rfl, Nat.le_refl _, by decide, rfl, by simp; rfl⟩⟩
  · go_grown
theorem sort_two : sortS [exE2, exE1] = [exE1, exE2] := by decide +kernel
theorem exE1_ok : exE1.ok := ⟨by decide, by decide, Vec.ok_zero, by decide, by decide, by decide, by decide, by decide, by decide⟩
theorem exE2_ok : exE2.ok := ⟨by decide, by decide, ok_of (by decide), by decide, by decide, by decide, by decide, by decide, by decide⟩
theorem ready_e1 : readyB Vec.zero exE1 = true := by decide +kernel
theorem ready_e2 : readyB Vec.zero exE2 = false := by decide +kernel
theorem late_e1 : lateB ⟨1, 0, 0, 0, 0, 0⟩ exE1 = true := by decide +kernel
theorem ex_ne : decide (exE1 = exE1) = true ∧ decide (exE2 = exE2) = true := by decide +kernel
theorem olate' (v : Vec) (e : Ev) (hv : e.ok) (b : Bool) (h : lateB v e = b) (w : World) : Calls Try.prog 33 #[.agg (vecA v), .agg (evA e)] w fun r w' => r = .returned (.bool b) ∧ Below w.heap.size w w' := by
  subst h; exact olate v e hv w
set_option maxHeartbeats 2000000 in
theorem works10 (w : World) : Calls Try.prog 28 #[] w fun r w' => r = .returned (.bool true) ∧ Below w.heap.size w w' := by
  have cs : ∀ (A : Option Addr) (c : Nat) (W : World), ERows W W.heap.size A [exE2, exE1] → 2 ≤ c → c ≤ maxLen → Calls Try.prog 29 #[.slice A 2 c] W (GivesEI [exE1, exE2] 0 W) := fun A c W h1 h2 h3 => by
    have := osort A c [exE2, exE1] W.heap.size W h1 (Nat.le_refl _) h2 h3 (by decide) (fun e he => by simp at he; rcases he with rfl | rfl; exact exE2_ok; exact exE1_ok)
    rw [sort_two] at this
    exact this
  have C1 := Lib.hid (oready' Vec.zero exE1 exE1_ok true ready_e1)
  have C2 := Lib.hid (oready' Vec.zero exE2 exE2_ok false ready_e2)
  have C3 := Lib.hid (olate' ⟨1, 0, 0, 0, 0, 0⟩ exE1 exE1_ok true late_e1)
  have CS := Lib.hid cs
  clear cs
  generalize hx1 : exE1 = e1 at C1 C2 C3 CS
  generalize hx2 : exE2 = e2 at C1 C2 C3 CS
  have c0 := two10 w
  rw [hx1, hx2] at c0
  have C0 := Lib.hid c0
  clear c0 hx1 hx2
  go_enter Try.func28, Try.ntmps28
  go_wp2_with fail
  refine C0.out.mono ?_
  rintro r w1 ⟨u1, rfl, hown1, hb1⟩
  obtain ⟨A1, c1, rfl, hc1, hm1, hR1⟩ := own_open hown1
  go_wp2_with fail
  refine (CS.out A1 c1 w1 hR1 hc1 hm1).mono ?_
  rintro r w2 ⟨u2, rfl, hown2, hb2⟩
  obtain ⟨A2, c2, rfl, hc2, hm2, hR2⟩ := own_open hown2
  have hR1' : ERows w2 w2.heap.size A1 [e2, e1] := Rd.next hR1 hb2
  have hR2' : ERows w2 w2.heap.size A2 [e1, e2] := hR2
  obtain ⟨b1, o1, rfl, hb3, x0, x1, x2, x3, x4, x5, x6, x7, x8, x9, x10, x11, x12, x13⟩ := ERows.at_ hR1' (i := 0) rfl
  obtain ⟨b2, o2, hA2, hb4, y0, y1, y2, y3, y4, y5, y6, y7, y8, y9, y10, y11, y12, y13⟩ := ERows.at_ hR1' (i := 1) rfl
  obtain ⟨rfl, rfl⟩ : b1 = b2 ∧ o1 = o2 := by simpa using hA2
  obtain ⟨b3, o3, rfl, hb5, z0, z1, z2, z3, z4, z5, z6, z7, z8, z9, z10, z11, z12, z13⟩ := ERows.at_ hR2' (i := 0) rfl
  obtain ⟨b4, o4, hA4, hb6, u0, u1, u2, u3, u4, u5, u6, u7, u8, u9, u10, u11, u12, u13⟩ := ERows.at_ hR2' (i := 1) rfl
  obtain ⟨rfl, rfl⟩ : b3 = b4 ∧ o3 = o4 := by simpa using hA4
  rw [Nat.zero_mul, Nat.add_zero] at x0 x1 x2 x3 x4 x5 x6 x7 x8 x9 x10 x11 x12 x13 z0 z1 z2 z3 z4 z5 z6 z7 z8 z9 z10 z11 z12 z13
  rw [Nat.one_mul] at y0 y1 y2 y3 y4 y5 y6 y7 y8 y9 y10 y11 y12 y13 u0 u1 u2 u3 u4 u5 u6 u7 u8 u9 u10 u11 u12 u13
  have hb := hb1.trans (hb2.mono hb1.size)
  clear hR1 hR1' hR2 hR2' hown1 hown2 hA2 hA4
  go_wp2_with fail
  refine wp_region_later (by kernel_rfl) (by kernel_rfl) ?_
  repeat (go_big_quiet_step (first | (go_at_call 31; with_reducible exact Calls.later (C1.out _)) | (go_at_call 31; with_reducible exact Calls.later (C2.out _)) | (go_at_call 33; with_reducible exact Calls.later (C3.out _))))
  refine wpQuiet_nil ?_
  rintro w3 ⟨x, rfl⟩
  have hb7 := hb.trans (x.below.mono hb.size)
  generalize x.w = w3 at hb7
  go_wp2_with fail
  go_ret
  exact ⟨rfl, hb7⟩
end Go.Proofs.Ytbddjnnanbjgfaa
