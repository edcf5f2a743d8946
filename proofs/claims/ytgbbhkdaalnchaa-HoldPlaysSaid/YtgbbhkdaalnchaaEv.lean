/-
  The walks of package event: region, the greatest of a vector, the fields that a kind has, May.
-/
import Derived.Test.YtgbbhkdaalnchaaGO
import Derived.Test.YtgbbhkdaalnchaaGA
import Derived.Outline
namespace Go.Proofs.Ytgbbhkdaalnchaa
set_option linter.unusedVariables false
set_option linter.unusedSimpArgs false
open Go.RowKit

theorem info_vecS : (Try.prog.info? 30).map (fun i => i.size) = some 6 := by kernel_rfl
theorem part_ev (e : Ev) (w : World) :
    (part 3 (evA e) 0).run Try.prog w = .ok (.int .i64 e.o) w ∧ (part 28 (evA e) 1).run Try.prog w = .ok (.int .u64 e.s) w ∧ (part 30 (evA e) 2).run Try.prog w = .ok (.agg (vecA e.d)) w ∧ (part 5 (evA e) 8).run Try.prog w = .ok (.int .u8 e.k) w ∧
    (part 28 (evA e) 9).run Try.prog w = .ok (.int .u64 e.n) w ∧ (part 3 (evA e) 10).run Try.prog w = .ok (.int .i64 e.t) w ∧ (part 2 (evA e) 11).run Try.prog w = .ok (.int .i64 e.a) w ∧ (part 28 (evA e) 12).run Try.prog w = .ok (.int .u64 e.r) w ∧ (part 28 (evA e) 13).run Try.prog w = .ok (.int .u64 e.f) w :=
  ⟨by kernel_rfl, by kernel_rfl, by kernel_rfl, by kernel_rfl, by kernel_rfl, by kernel_rfl, by kernel_rfl, by kernel_rfl, by kernel_rfl⟩
theorem stood_ev : Try.prog.stoodInHeld 32 = false := by kernel_rfl
@[go_sem ↓ high] theorem eqIn_ev (w : World) (d : Nat) (x y : Ev) : (Op.equalIn (d + 3) 32 (.agg (evA x)) (.agg (evA y))).run Try.prog w = .ok (decide (x = y)) w := by
  obtain ⟨a0, a1, a2, a3, a4, a5, a6, a7, a8⟩ := part_ev x w
  obtain ⟨b0, b1, b2, b3, b4, b5, b6, b7, b8⟩ := part_ev y w
  have hd : decide (x = y) = (x.o == y.o && (x.s == y.s && (decide (x.d = y.d) && (x.k == y.k && (x.n == y.n && (x.t == y.t && (x.a == y.a && (x.r == y.r && x.f == y.f)))))))) := by
    rw [Bool.eq_iff_iff]
    simp only [decide_eq_true_eq, Bool.and_eq_true, beq_iff_eq]
    exact ⟨fun h => by subst h; simp, fun ⟨h0, h1, h2, h3, h4, h5, h6, h7, h8⟩ => Ev.ext h0 h1 h2 h3 h4 h5 h6 h7 h8⟩
  have q0 := fun (x y : Int) => run_equalIn_int (P := Try.prog) w (d + 1) 3 .i64 .i64 x y Try.underlying3
  have q1 := fun (x y : Int) => run_equalIn_int (P := Try.prog) w (d + 1) 28 .u64 .u64 x y Try.underlying28
  have q2 := eqIn_vec w d x.d y.d
  have q3 := fun (x y : Int) => run_equalIn_int (P := Try.prog) w (d + 1) 5 .u8 .u8 x y Try.underlying5
  have q4 := fun (x y : Int) => run_equalIn_int (P := Try.prog) w (d + 1) 2 .i64 .i64 x y Try.underlying2
  rw [Op.equalIn, hd]
  simp only [Sem.run_bind, run_underlying Try.underlying32, Result.andThen_ok, stood_ev]
  simp [a0, a1, a2, a3, a4, a5, a6, a7, a8, b0, b1, b2, b3, b4, b5, b6, b7, b8, q0, q1, q2, q3, q4]
  by_cases e0 : x.o = y.o
  · by_cases e1 : x.s = y.s
    · by_cases e2 : x.d = y.d
      · by_cases e3 : x.k = y.k
        · by_cases e4 : x.n = y.n
          · by_cases e5 : x.t = y.t
            · by_cases e6 : x.a = y.a
              · by_cases e7 : x.r = y.r
                · by_cases e8 : x.f = y.f
                  · simp [e0, e1, e2, e3, e4, e5, e6, e7, e8]
                  · simp [e0, e1, e2, e3, e4, e5, e6, e7, e8]
                · simp [e0, e1, e2, e3, e4, e5, e6, e7]
              · simp [e0, e1, e2, e3, e4, e5, e6]
            · simp [e0, e1, e2, e3, e4, e5]
          · simp [e0, e1, e2, e3, e4]
        · simp [e0, e1, e2, e3]
      · simp [e0, e1, e2]
    · simp [e0, e1]
  · simp [e0]

@[go_sem] theorem ev_build (z e : Ev) : Array.foldl (fun (cs : Array Value) (x : Value × Nat) => cs.setIfInBounds x.snd x.fst) (evA z) (evA e).zipIdx 0 14 = evA e := by kernel_rfl
/-- An event built of origin, number, what was known, and kind. -/
def bEv (x y z u : Value) : Sem Next := do pure (.value (← Instr.build 32 #[(0, x), (1, y), (2, z), (3, u)]))
section
variable (ρ : Operand → Value) (dst : Option Tmp) (x y z u : Operand) (ty : TypeId) (pos : String) (after : Array Edge) (guard : Option (Nat × Bool))
@[go_sem ↓] theorem execOp_bEv : execOp ρ { dst, op := .build 32 #[(0, x), (1, y), (2, z), (3, u)], type := ty, pos, after, guard } = bEv (ρ x) (ρ y) (ρ z) (ρ u) := by simp [execOp, bEv]
end
@[go_sem] theorem run_bEv (o s k : Int) (d : Vec) (w : World) : (bEv (.int .i64 o) (.int .u64 s) (.agg (vecA d)) (.int .u8 k)).run Try.prog w = .ok (.value (.agg (evA ⟨o, s, d, k, 0, 0, 0, 0, 0⟩))) w := by kernel_rfl
theorem eregion_any (k : Int) (w : World) :
    Calls Try.prog 64 #[.int .i64 k] w fun e w' => e = .returned (.bool (regE k)) ∧ w = w' := by
  go_enter Try.func64, Try.ntmps64
  go_wp2
  all_goals go_ret
  all_goals (refine ⟨?_, rfl⟩; simp [regE]; omega)
theorem eregion_is (k : Int) (b : Bool) (h : regE k = b) (w : World) :
    Calls Try.prog 64 #[.int .i64 k] w fun e w' => e = .returned (.bool b) ∧ w = w' := by
  subst h; exact eregion_any k w
section
variable {w0 w : World} {g : Nat} {e : Ev} {bs : List (Nat × TypeId × Array Value)}
theorem enode_any (least : Int) (T : Trk w0 w ((g, 118, evA e) :: bs)) (hB : w0.heap.size ≤ g) (hN : Nes g bs) :
    Calls Try.prog 75 #[.pointer (some ⟨g, 0, none⟩), .int .i64 least] w fun r w' => r = .returned (.bool (amountB least e)) ∧ Trk w0 w' ((g, 118, evA { e with n := 0, a := 0 }) :: bs) := by
  obtain ⟨q0, f0, -⟩ := T.rules
  by_cases h1 : least ≤ e.a <;> by_cases h2 : e.a ≤ 1125899906842624
  all_goals
    go_enter Try.func75, Try.ntmps75
    go_wp2_with fail
    go_ret
    exact ⟨by simp [amountB, h1, h2], (T.set_ hB hN 9 _).set_ hB hN 11 _⟩
theorem ereq_any (T : Trk w0 w ((g, 118, evA e) :: bs)) (hB : w0.heap.size ≤ g) (hN : Nes g bs) :
    Calls Try.prog 76 #[.pointer (some ⟨g, 0, none⟩)] w fun r w' => r = .returned (.bool (decide (0 < e.r))) ∧ Trk w0 w' ((g, 118, evA { e with r := 0 }) :: bs) := by
  obtain ⟨q0, f0, -⟩ := T.rules
  go_enter Try.func76, Try.ntmps76
  go_wp2_with fail
  go_ret
  exact ⟨rfl, T.set_ hB hN 12 _⟩
theorem eto_any (T : Trk w0 w ((g, 118, evA e) :: bs)) (hB : w0.heap.size ≤ g) (hN : Nes g bs) :
    Calls Try.prog 78 #[.pointer (some ⟨g, 0, none⟩)] w fun r w' => r = .returned (.bool (toB e)) ∧ Trk w0 w' ((g, 118, evA { e with t := 0 }) :: bs) := by
  obtain ⟨q0, f0, -⟩ := T.rules
  obtain ⟨b, hb⟩ : ∃ b, regE e.t = b := ⟨_, rfl⟩
  have c1 := eregion_is e.t b hb
  have HB : toB e = (b && decide (e.t ≠ e.o)) := by unfold toB; rw [hb]
  have C1 := Lib.hid c1
  have HB := Lib.hid HB
  clear hb c1
  rcases (show b = false ∨ b = true from by cases b <;> simp) with rfl | rfl
  all_goals
    go_enter Try.func78, Try.ntmps78
    go_wp2_with fail
    go_quiet ((go_at_call 64; exact Calls.quiet_of_same ((C1.out _).mono fun _ _ ⟨h1, h2⟩ => ⟨h1, h2.symm⟩)))
    go_wp2_with fail
    go_ret
    refine ⟨by rw [HB.out]; first | rfl | (simp [bne]; rfl), ?_⟩
    exact (T.drewN _).set_ hB hN 10 _
theorem eof_any (T : Trk w0 w ((g, 118, evA e) :: bs)) (hB : w0.heap.size ≤ g) (hN : Nes g bs) :
    Calls Try.prog 77 #[.pointer (some ⟨g, 0, none⟩)] w fun r w' => r = .returned (.bool (decide (0 < e.r) && (decide (0 < e.f) && decide (e.f ≠ e.r)))) ∧ Trk w0 w' ((g, 118, evA { e with f := 0, r := 0 }) :: bs) := by
  obtain ⟨q0, f0, -⟩ := T.rules
  obtain ⟨x1, h1⟩ : ∃ b, decide (0 < e.f) = b := ⟨_, rfl⟩
  obtain ⟨x2, h2⟩ : ∃ b, decide (0 < e.r) = b := ⟨_, rfl⟩
  rcases (show x1 = false ∨ x1 = true from by cases x1 <;> simp) with rfl | rfl <;> rcases (show x2 = false ∨ x2 = true from by cases x2 <;> simp) with rfl | rfl
  all_goals
    have hr : (decide (0 < e.r) && (decide (0 < e.f) && decide (e.f ≠ e.r))) = (decide (0 < e.r) && (decide (0 < e.f) && (e.f != e.r))) := by simp [bne]; rfl
    rw [h1, h2] at hr
    have HR := Lib.hid hr
    clear hr
    go_enter Try.func77, Try.ntmps77
    go_wp2_with fail
    go_quiet (fail)
    have T1 := (T.drewN nq).set_ hB hN 13 (.int .u64 0)
    go_wp2_with fail
    refine (ereq_any (e := { e with f := 0 }) T1 hB hN).mono ?_
    rintro r w1 ⟨rfl, T2⟩
    have h2' := h2
    clear q0 f0 T1
    go_wp2_with fail
    go_ret
    exact ⟨by first | (simp [h1, h2, bne]; done) | (simp [h1, h2, bne]; rfl), T2⟩
/-- What 'kind' leaves: if it may be, what is left. -/
def KindLeft (w0 w' : World) (g : Nat) (e : Ev) (bs : List (Nat × TypeId × Array Value)) : Prop := ∃ e' : Ev, Trk w0 w' ((g, 118, evA e') :: bs) ∧ (fieldsB e = true → e' = leftE e)
theorem ekind_any (T : Trk w0 w ((g, 118, evA e) :: bs)) (hB : w0.heap.size ≤ g) (hN : Nes g bs) :
    Calls Try.prog 66 #[.pointer (some ⟨g, 0, none⟩)] w fun r w' => r = .returned (.bool (fieldsB e)) ∧ KindLeft w0 w' g e bs := by
  obtain ⟨q0, f0, -⟩ := T.rules
  by_cases h1 : e.k = 1
  · go_enter Try.func66, Try.ntmps66
    go_wp2_with fail
    refine (enode_any 0 T hB hN).mono ?_
    rintro r w1 ⟨rfl, T1⟩
    clear q0 f0
    go_wp2_with fail
    go_ret
    exact ⟨by simp [fieldsB, h1], _, T1, fun _ => by simp [leftE, h1]⟩
  by_cases h2 : e.k = 2
  · go_enter Try.func66, Try.ntmps66
    go_wp2_with fail
    refine (enode_any 1 T hB hN).mono ?_
    rintro r w1 ⟨rfl, T1⟩
    clear q0 f0
    go_wp2_with fail
    go_ret
    exact ⟨by simp [fieldsB, h2], _, T1, fun _ => by simp [leftE, h2]⟩
  by_cases h3 : e.k = 3
  · obtain ⟨b, hb⟩ : ∃ b, amountB 1 e = b := ⟨_, rfl⟩
    have c1 := enode_any 1 T hB hN
    rw [hb] at c1
    have C1 := Lib.hid c1
    have HB := Lib.hid hb
    clear c1 hb
    rcases (show b = false ∨ b = true from by cases b <;> simp) with rfl | rfl
    all_goals
      go_enter Try.func66, Try.ntmps66
      go_wp2_with fail
      refine C1.out.mono ?_
      rintro r w1 ⟨rfl, T1⟩
      clear q0 f0
      go_wp2_with (go_at_call 76; refine (ereq_any (e := { e with n := 0, a := 0 }) T1 hB hN).mono ?_; rintro r w2 ⟨rfl, T2⟩)
      go_ret
    · exact ⟨by simp [fieldsB, h3, HB.out], _, T1, fun h => by simp [fieldsB, h3, HB.out] at h⟩
    · exact ⟨by simp [fieldsB, h3, HB.out]; omega, _, T2, fun _ => by simp [leftE, h3]⟩
  by_cases h4 : e.k = 4
  · go_enter Try.func66, Try.ntmps66
    go_wp2_with fail
    refine (eof_any T hB hN).mono ?_
    rintro r w1 ⟨rfl, T1⟩
    clear q0 f0
    go_wp2_with fail
    go_ret
    refine ⟨?_, _, T1, fun _ => by simp [leftE, h4]⟩
    have e1 : decide (1 ≤ e.r) = decide (0 < e.r) := rfl
    have e2 : decide (1 ≤ e.f) = decide (0 < e.f) := rfl
    have e3 : decide (e.r ≠ e.f) = decide (e.f ≠ e.r) := by rw [decide_eq_decide]; exact ne_comm
    simp only [fieldsB, h4, e1, e2, e3]
    simp [Bool.and_assoc]
  by_cases h5 : e.k = 5
  · obtain ⟨b, hb⟩ : ∃ b, amountB 1 e = b := ⟨_, rfl⟩
    have c1 := enode_any 1 T hB hN
    rw [hb] at c1
    have C1 := Lib.hid c1
    have HB := Lib.hid hb
    clear c1 hb
    rcases (show b = false ∨ b = true from by cases b <;> simp) with rfl | rfl
    all_goals
      go_enter Try.func66, Try.ntmps66
      go_wp2_with fail
      refine C1.out.mono ?_
      rintro r w1 ⟨rfl, T1⟩
      clear q0 f0
      go_wp2_with (go_at_call 78; refine (eto_any (e := { e with n := 0, a := 0 }) T1 hB hN).mono ?_; rintro r w2 ⟨rfl, T2⟩)
      go_ret
    · exact ⟨by simp [fieldsB, h5, HB.out], _, T1, fun h => by simp [fieldsB, h5, HB.out] at h⟩
    · exact ⟨by simp [fieldsB, h5, HB.out, toB], _, T2, fun _ => by simp [leftE, h5]⟩
  by_cases h6 : e.k = 6
  · go_enter Try.func66, Try.ntmps66
    go_wp2_with fail
    refine (eto_any T hB hN).mono ?_
    rintro r w1 ⟨rfl, T1⟩
    clear q0 f0
    go_wp2_with fail
    go_ret
    exact ⟨by simp [fieldsB, h6], _, T1, fun _ => by simp [leftE, h6]⟩
  · have k1 : (e.k == 1) = false := by rw [beq_eq_false_iff_ne]; exact h1
    have k2 : (e.k == 2) = false := by rw [beq_eq_false_iff_ne]; exact h2
    have k3 : (e.k == 3) = false := by rw [beq_eq_false_iff_ne]; exact h3
    have k4 : (e.k == 4) = false := by rw [beq_eq_false_iff_ne]; exact h4
    have k5 : (e.k == 5) = false := by rw [beq_eq_false_iff_ne]; exact h5
    have k6 : (e.k == 6) = false := by rw [beq_eq_false_iff_ne]; exact h6
    go_enter Try.func66, Try.ntmps66
    go_wp2_with fail
    go_ret
    exact ⟨by simp [fieldsB, h1, h2, h3, h4, h5, h6]; rfl, _, T, fun _ => by simp [leftE, h1, h2, h3, h4, h5, h6]⟩
end
end Go.Proofs.Ytgbbhkdaalnchaa
