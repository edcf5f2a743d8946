/-
  The walk of the document's Take.
-/
import Derived.Test.YtnhjphmcdamoaaaNdC
namespace Go.Proofs.Ytnhjphmcdamoaaa
set_option linter.unusedVariables false
set_option linter.unusedSimpArgs false
open Go.RowKit Go
set_option maxRecDepth 100000

theorem Trk.grown {w0 w w' : World} {bs : List (Nat × TypeId × Array Value)} (T : Trk w0 w bs) {r : Option Nat} (hg : w.grownBy w' r) (hb : Below w0.heap.size w w') (hr : ∀ g t cs, (g, t, cs) ∈ bs → r ≠ some g) : Trk w0 w' bs :=
  ⟨T.below.trans hb, fun g t cs hm => (hg.block g (T.blk g t cs hm).lt (fun e => hr g t cs hm e.symm)).trans (T.blk g t cs hm)⟩
theorem mrows_take {w : World} {B : Nat} {A : Option Addr} {X : List Mc} (h : MRows w B A X) (k : Nat) (hk : k ≤ X.length) : MRows w B A (X.take k) := by
  refine ⟨mcells_length _, fun hn => ?_⟩
  have hl : (X.take k).length = k := by rw [List.length_take]; omega
  rw [hl] at hn
  obtain ⟨b, o, e, hb, hc⟩ := h.2 (by omega)
  refine ⟨b, o, e, hb, fun j u hu => hc j u ?_⟩
  rw [← mcells_take X k hk, List.getElem?_take] at hu
  split at hu
  · exact hu
  · cases hu
theorem mrows_drop {w : World} {B b o : Nat} {X : List Mc} (h : MRows w B (some ⟨b, o, none⟩) X) (k : Nat) (hk : k ≤ X.length) : MRows w B (some ⟨b, o + k * 12, none⟩) (X.drop k) := by
  refine ⟨mcells_length _, fun hn => ?_⟩
  rw [List.length_drop] at hn
  obtain ⟨b', o', e, hb, hc⟩ := h.2 (by omega)
  obtain ⟨rfl, rfl⟩ : b = b' ∧ o = o' := by simpa using e
  refine ⟨b, o + k * 12, rfl, hb, fun j u hu => ?_⟩
  rw [← mcells_drop X k hk, List.getElem?_drop] at hu
  rw [Nat.add_assoc]
  exact hc _ u hu
section
variable {w0 w : World} {h : Nat} {s : Value} {X : List Mc} {L : List Ms} {C : Nat → Bool}
theorem rtake_none (k : Int) (A1 : Option Addr) (n1 c1 : Nat) (hB : Blk w h 64 (netA (.slice A1 n1 c1) C)) (hk : ¬ (0 ≤ k ∧ k < (n1 : Int))) :
    Calls Try.prog 42 #[.pointer (some ⟨h, 0, none⟩), .int .i64 k] w fun e w' => e = .returned (.tuple #[.agg (mcA Mc.zero), .bool false]) ∧ Below w.heap.size w w' := by
  obtain ⟨q, -⟩ := hB.rules
  have q0 : w.cell? ⟨h, 0, none⟩ = some (.slice A1 n1 c1) := q 0
  have l0 := hB.lt
  clear hB q
  by_cases h0 : k < 0
  · have d0 : decide (k < 0) = true := decide_eq_true h0
    clear hk
    go_enter Try.func42, Try.ntmps42
    go_wp2_with fail
    have T0 : Trk w _ [(w.heap.size, 48, mcA Mc.zero)] := (Trk.nil w).push (t := 48) (cs := mcA Mc.zero) rfl
    refine bodyPost_ret (v := .tuple #[.agg (mcA Mc.zero), .bool false]) (results_takeM (s1 := 4) (s2 := 5) (by kernel_rfl) _ w.heap.size Mc.zero false _ rfl rfl (T0.blk _ _ _ List.mem_cons_self)) rfl ⟨rfl, T0.below⟩
  · have d0 : decide (k < 0) = false := decide_eq_false h0
    have d1 : decide ((n1 : Int) ≤ k) = true := decide_eq_true (by omega)
    clear hk
    go_enter Try.func42, Try.ntmps42
    go_wp2_with fail
    have T0 : Trk w _ [(w.heap.size, 48, mcA Mc.zero)] := (Trk.nil w).push (t := 48) (cs := mcA Mc.zero) rfl
    refine bodyPost_ret (v := .tuple #[.agg (mcA Mc.zero), .bool false]) (results_takeM (s1 := 4) (s2 := 5) (by kernel_rfl) _ w.heap.size Mc.zero false _ rfl rfl (T0.blk _ _ _ List.mem_cons_self)) rfl ⟨rfl, T0.below⟩
set_option maxHeartbeats 4000000 in
theorem rtake_ok (k : Nat) (m : Ms) (hk : L[k]? = some m) (N : Doc w0 w h s X L C) (hX : X.length ≤ 128) :
    Calls Try.prog 42 #[.pointer (some ⟨h, 0, none⟩), .int .i64 (k : Int)] w fun e w' => ∃ A c, e = .returned (.tuple #[.agg (mcA ⟨m.k, m.f, m.t, m.d, .slice A m.l.length c, m.n, m.a⟩), .bool true]) ∧ m.l.length ≤ c ∧ c ≤ maxLen ∧ ERows w' w0.heap.size A m.l ∧ DocTo w0 w w' h s (L.eraseIdx k) C := by
  obtain ⟨x, hx, hy⟩ := N.evs.get hk
  obtain ⟨Ax, cx, rfl, hcx, hmx, hrx⟩ := hy.ex
  have hkX : k < X.length := (List.getElem?_eq_some_iff.1 hx).1
  obtain ⟨A1, c1, rfl, hc1, hm1, hrd⟩ := own_open N.own
  obtain ⟨bx, o1, rfl, hbx, -⟩ := MRows.at_ hrd hx
  have HX := Lib.hid hx
  have HRD := Lib.hid hrd
  have HRX := Lib.hid hrx
  have HSL := Lib.hid N.sl
  clear hx hk hrd hrx hy
  have a1 : (0 : Int) ≤ (k : Int) := by omega
  have a2 : (k : Int) < (X.length : Int) := by omega
  have hx9 : X.length ≤ 9223372036854775807 := by omega
  have hc9 : c1 ≤ 9223372036854775807 := hm1
  have d0 : decide ((k : Int) < 0) = false := decide_eq_false (by omega)
  have d1 : decide ((X.length : Int) ≤ (k : Int)) = false := decide_eq_false (by omega)
  obtain ⟨q0, f0⟩ := N.blk.rules
  have l0 := N.blk.lt
  have x0 : w.cell? ⟨h, 0, none⟩ = some (.slice (some ⟨bx, o1, none⟩) X.length c1) := q0 0
  clear q0
  go_enter Try.func42, Try.ntmps42
  obtain ⟨bx', o1', ea, hbx', y0, y1, y2, y3, y4, y5, y6, y7, y8, y9, y10, y11⟩ := MRows.at_ HRD.out HX.out
  obtain ⟨rfl, rfl⟩ : bx = bx' ∧ o1 = o1' := by simpa using ea
  clear ea
  go_upto_region 5 with fail
  have T : Trk w _ [(w.heap.size + 1, 48, mcA ⟨m.k, m.f, m.t, m.d, .slice Ax m.l.length cx, m.n, m.a⟩), (w.heap.size, 48, mcA Mc.zero)] := ((Trk.nil w).push (t := 48) (cs := mcA Mc.zero) rfl).push (t := 48) (cs := mcA ⟨m.k, m.f, m.t, m.d, .slice Ax m.l.length cx, m.n, m.a⟩) (g := w.heap.size + 1) (by simp)
  clear y0 y1 y2 y3 y4 y5 y6 y7 y8 y9 y10 y11 f0
  generalize (World.alloc _ _) = w2 at T ⊢
  have b2 := N.blk.below T.below l0
  obtain ⟨q0, f0⟩ := b2.rules
  have x2 : w2.cell? ⟨h, 0, none⟩ = some (.slice (some ⟨bx, o1, none⟩) X.length c1) := q0 0
  have l2 := b2.lt
  clear q0 x0
  obtain ⟨A2, hA2, hsrc⟩ : ∃ A2 : Option Addr, (if c1 = k + 1 then (some ⟨bx, o1, none⟩ : Option Addr) else some ⟨bx, o1 + (k + 1) * 12, none⟩) = A2 ∧ Hid (∀ W, Below w.heap.size w W → MRows W w.heap.size A2 (X.drop (k + 1))) := by
    by_cases hc : c1 = k + 1
    · refine ⟨some ⟨bx, o1, none⟩, by simp [hc], Lib.hid fun W hW => ⟨mcells_length _, fun hn => ?_⟩⟩
      rw [List.length_drop] at hn
      omega
    · exact ⟨some ⟨bx, o1 + (k + 1) * 12, none⟩, by simp [hc], Lib.hid fun W hW => mrows_drop (HRD.out.below hW) (k + 1) (by omega)⟩
  have hkc : k + 1 ≤ c1 := by omega
  have hkc2 : k ≤ c1 := by omega
  have hkx : k + 1 ≤ X.length := by omega
  have hlt1 : (X.take k).length = k := by rw [List.length_take]; omega
  have HLT1 := Lib.hid hlt1
  clear hlt1
  go_upto_region 6 with (at_builtin; refine append_mcs _ rfl (.tmp 27) (.tmp 33) rfl w.heap.size _ [] (X.take k) k HLT1.out (fun x hx => HSL.out x (List.mem_of_mem_take hx)) rfl (World.ownsRow_nil _ _ _ _) (some ⟨bx, o1, none⟩) c1 _ rfl (mrows_take (HRD.out.below T.below) k (by omega)) (by rw [HLT1.out]; simp; omega) T.below.size ?_; intro v3 w3 hown3 hb3 hg3 hf3)
  have hg3' : w2.grownBy w3 none := hg3
  have hf3' : v3.ownBlock = none ∨ ∀ b, v3.ownBlock = some b → w2.heap.size ≤ b := hf3
  have T3 := T.grown hg3' hb3 (fun _ _ _ _ => by simp)
  have hge3 : ∀ k, v3.ownBlock = some k → w2.heap.size ≤ k := fun k hk => by
    rcases hf3' with h3 | h3
    · rw [h3] at hk; cases hk
    · exact h3 k hk
  have hz3 := hg3.size
  obtain ⟨A3, c3, e3, -⟩ := own_open hown3
  obtain rfl : v3 = .slice A3 k c3 := by rw [e3, List.nil_append, HLT1.out]
  clear e3
  have b3 := N.blk.below T3.below l0
  obtain ⟨q0, f3⟩ := b3.rules
  have x3 : w3.cell? ⟨h, 0, none⟩ = some (.slice (some ⟨bx, o1, none⟩) X.length c1) := q0 0
  have l3 := b3.lt
  have lt6 := T.lt
  have lw2 : w.heap.size + 2 ≤ w2.heap.size := by omega
  have HB := Lib.hid hb3
  have HG := Lib.hid hg3
  have HO := Lib.hid hown3
  clear T q0 x2 f0 l2 hb3 hg3 hg3' hf3 hf3' hown3 b2 b3
  go_upto_region 7 with (at_builtin; refine append_mcs _ rfl (.tmp 36) (.tmp 43) rfl w.heap.size _ ([] ++ X.take k) (X.drop (k + 1)) (X.length - (k + 1)) (by rw [List.length_drop]) (fun x hx => HSL.out x (List.mem_of_mem_drop hx)) rfl HO.out A2 (c1 - (k + 1)) _ rfl (hsrc.out _ T3.below) (by rw [List.nil_append, HLT1.out, List.length_drop]; omega) T3.below.size ?_; intro v4 w4 hown4 hb4 hg4 hf4; obtain ⟨A4, c4, e4, -⟩ := own_open hown4; obtain rfl : v4 = .slice A4 (X.length - 1) c4 := (by rw [e4, List.nil_append, List.length_append, HLT1.out, List.length_drop]; congr 1; omega); clear e4; have b4 := N.blk.below (T3.below.trans hb4) l0; have q4 := b4.rules.1 0; have x4 : w4.cell? ⟨h, 0, none⟩ = some (.slice (some ⟨bx, o1, none⟩) X.length c1) := q4; clear q4; have f4 := b4.rules.2)
  have hge4 : ∀ k, (Value.slice A4 (X.length - 1) c4).ownBlock = some k → w2.heap.size ≤ k := fun k hk => by
    rcases hf4 with h4 | h4
    · rw [h4] at hk; exact hge3 k hk
    · exact Nat.le_trans hz3 (h4 k hk)
  have T4 := T3.grown hg4 hb4 (fun g t cs hm e => by
    have h1 := hge3 g e
    simp at hm
    rcases hm with ⟨rfl, _⟩ | ⟨rfl, _⟩ <;> omega)
  have B4 := T4.below
  have b6 := b4.set_ 0 (.slice A4 (X.length - 1) c4)
  rw [netA_set0] at b6
  have F : Fr w (w4.setCell ⟨h, 0, none⟩ (.slice A4 (X.length - 1) c4)) h none := (Fr.of_below B4).set _ rfl _
  have own6 := own_far (p := ⟨h, 0, none⟩) hown4 l0 (.slice A4 (X.length - 1) c4)
  have t6 := (T4.blk _ _ _ List.mem_cons_self).far (p := ⟨h, 0, none⟩) (by show w.heap.size + 1 ≠ h; omega) (.slice A4 (X.length - 1) c4)
  have t4 := (T4.blk w.heap.size _ _ (List.mem_cons_of_mem _ List.mem_cons_self)).far (p := ⟨h, 0, none⟩) (by show w.heap.size ≠ h; omega) (.slice A4 (X.length - 1) c4)
  have HGE := Lib.hid hge4
  clear T3 T4 B4 HB HG HO hb4 hg4 hf4 hown4 b4 f4 x4 x3 f3 l3 lt6 hsrc hge3 hge4
  generalize (World.setCell _ _ _) = w5 at b6 F own6 t6 t4 ⊢
  obtain ⟨q6, f6⟩ := t6.rules
  have l6 := t6.lt
  obtain ⟨q4, f4⟩ := t4.rules
  have l4 := t4.lt
  have B6 := Lib.hid b6
  have O6 := Lib.hid own6
  clear b6 own6
  go_wp2_with fail
  have F6 : Fr w (setMsg w5 w.heap.size ⟨m.k, m.f, m.t, m.d, .slice Ax m.l.length cx, m.n, m.a⟩) h none := F.low (setMsg_below (Below.refl _ _) (Nat.le_refl _) _)
  have G6 := setMsg_fr w5 w.heap.size ⟨m.k, m.f, m.t, m.d, .slice Ax m.l.length cx, m.n, m.a⟩
  have own7 := G6.own O6.out (fun e => by have := HGE.out _ e; omega) (by cases A4 <;> simp [Value.ownBlock])
  have b7 := G6.blk B6.out (by omega) (by simp)
  have t7 := setMsg_blk t4 ⟨m.k, m.f, m.t, m.d, .slice Ax m.l.length cx, m.n, m.a⟩
  have hXe : X.eraseIdx k = [] ++ X.take k ++ X.drop (k + 1) := by rw [List.nil_append]; exact List.eraseIdx_eq_take_drop_succ X k
  have N7 := N.move F6.weak b7 (X' := X.eraseIdx k) (L' := L.eraseIdx k) (by rw [hXe]; exact own_mono own7 N.b.size) ((N.evs' F6.weak).erase k)
  have hE := HRX.out.below (F6.belowB N.hB (fun _ hk => by cases hk) N.b.size)
  have R : DocTo w0 w _ h (Value.slice (some ⟨bx, o1, none⟩) X.length c1) (L.eraseIdx k) C := ⟨_, _, N7, F6.weak, .inr (fun k hk => by have := HGE.out k hk; omega)⟩
  unfold setMsg at R hE t7
  dsimp only at R hE t7
  clear own7 b7 N7 F6 G6 F t4 t6 q4 q6 f4 f6
  generalize (World.setCell _ _ _) = w8 at R hE t7 ⊢
  refine bodyPost_ret (v := .tuple #[.agg (mcA ⟨m.k, m.f, m.t, m.d, .slice Ax m.l.length cx, m.n, m.a⟩), .bool true]) (results_takeM (s1 := 4) (s2 := 5) (by kernel_rfl) _ w.heap.size _ true _ rfl rfl t7) rfl ⟨Ax, cx, rfl, hcx, hmx, hE, R⟩
end
end Go.Proofs.Ytnhjphmcdamoaaa
