/-
  The walk of package net: Take.
-/
import Derived.Test.YtnhjphmcdamoaaaNtA
namespace Go.Proofs.Ytnhjphmcdamoaaa
set_option linter.unusedVariables false
set_option linter.unusedSimpArgs false
open Go.RowKit Go
set_option maxRecDepth 100000

theorem results_takeM {fn : Func} {s1 s2 : Nat} (h : fn.results = #[.cell s1 48, .tmp s2]) (tmps : Array Value) (g : Nat) (x : Mc) (b : Bool) (w : World) (ht : tmps.getD s1 undef = .pointer (some ⟨g, 0, none⟩)) (ht2 : tmps.getD s2 undef = .bool b)
    (hb : Blk w g 48 (mcA x)) : (results fn tmps).run Try.prog w = .ok (.tuple #[.agg (mcA x), .bool b]) w := by
  obtain ⟨q, -⟩ := hb.rules
  have h1 : tmps[s1]?.getD undef = .pointer (some ⟨g, 0, none⟩) := by rw [← ht]; simp
  have h2 : tmps[s2]?.getD undef = .bool b := by rw [← ht2]; simp
  simp [results, h, h1, h2, go_sem, q]
/-- A message stored whole. -/
def setMsg (w : World) (g : Nat) (R : Mc) : World := (((((((((((w.setCell ⟨g, 0, none⟩ (.int .u8 R.k)).setCell ⟨g, 1, none⟩ (.int .i64 R.f)).setCell ⟨g, 2, none⟩ (.int .i64 R.t)).setCell ⟨g, 3, none⟩ (.int .u64 R.d.v0)).setCell ⟨g, 4, none⟩ (.int .u64 R.d.v1)).setCell ⟨g, 5, none⟩ (.int .u64 R.d.v2)).setCell ⟨g, 6, none⟩ (.int .u64 R.d.v3)).setCell ⟨g, 7, none⟩ (.int .u64 R.d.v4)).setCell ⟨g, 8, none⟩ (.int .u64 R.d.v5)).setCell ⟨g, 9, none⟩ R.s).setCell ⟨g, 10, none⟩ (.int .u64 R.n)).setCell ⟨g, 11, none⟩ (.int .i64 R.a)
theorem setMsg_fr (w : World) (g : Nat) (R : Mc) : Fr w (setMsg w g R) g none :=
  (((((((((((Fr.of_set ⟨g, 0, none⟩ rfl _).set ⟨g, 1, none⟩ rfl _).set ⟨g, 2, none⟩ rfl _).set ⟨g, 3, none⟩ rfl _).set ⟨g, 4, none⟩ rfl _).set ⟨g, 5, none⟩ rfl _).set ⟨g, 6, none⟩ rfl _).set ⟨g, 7, none⟩ rfl _).set ⟨g, 8, none⟩ rfl _).set ⟨g, 9, none⟩ rfl _).set ⟨g, 10, none⟩ rfl _).set ⟨g, 11, none⟩ rfl _
theorem setMsg_blk {w : World} {g : Nat} {O : Mc} (h : Blk w g 48 (mcA O)) (R : Mc) : Blk (setMsg w g R) g 48 (mcA R) := by
  rw [← mcA_all O R]
  exact (((((((((((h.set_ 0 (.int .u8 R.k)).set_ 1 (.int .i64 R.f)).set_ 2 (.int .i64 R.t)).set_ 3 (.int .u64 R.d.v0)).set_ 4 (.int .u64 R.d.v1)).set_ 5 (.int .u64 R.d.v2)).set_ 6 (.int .u64 R.d.v3)).set_ 7 (.int .u64 R.d.v4)).set_ 8 (.int .u64 R.d.v5)).set_ 9 R.s).set_ 10 (.int .u64 R.n)).set_ 11 (.int .i64 R.a)
theorem setMsg_below {w w1 : World} {g B : Nat} (h : Below B w1 w) (hg : B ≤ g) (R : Mc) : Below B w1 (setMsg w g R) := by
  have f := setMsg_fr w g R
  exact h.trans ⟨f.os, f.tape, f.output, f.size, fun k hk => by
    by_cases hl : k < w.heap.size
    · exact f.block k hl (by omega) (by simp)
    · have hs : (setMsg w g R).heap.size = w.heap.size := by simp [setMsg]
      rw [Array.getElem?_eq_none (by omega), Array.getElem?_eq_none (by omega)]⟩
theorem Fr.low {w w' w'' : World} {h : Nat} {r : Option Nat} (a : Fr w w' h r) (b : Below w.heap.size w' w'') : Fr w w'' h r :=
  ⟨b.os.trans a.os, b.tape.trans a.tape, b.output.trans a.output, Nat.le_trans a.size b.size, fun k hk h1 h2 => (b.block k hk).trans (a.block k hk h1 h2)⟩
section
variable {w0 w : World} {bs : List (Nat × TypeId × Array Value)} {h : Nat} {s : Value} {X : List Mc} {L : List Ms} {C : Nat → Bool}
theorem Net.setMsg {g : Nat} {O : Mc} (N : Net w0 w ((g, 48, mcA O) :: bs) h s X L C) (hg : w0.heap.size ≤ g) (R : Mc) : Net w0 (setMsg w g R) ((g, 48, mcA R) :: bs) h s X L C :=
  N.bmove hg (by decide) (setMsg_fr w g R) (setMsg_blk (N.T.blk g _ (mcA O) (by simp)) R)
set_option maxHeartbeats 2000000 in
theorem ntake_nil (k : Int) : Calls Try.prog 39 #[.pointer none, .int .i64 k] w fun e w' => e = .returned (.tuple #[.agg (mcA Mc.zero), .bool false]) ∧ Below w.heap.size w w' := by
  have C1 := Lib.hid (fun W => nthere_nil k W)
  go_enter Try.func39, Try.ntmps39
  go_wp2_with fail
  have T0 : Trk w _ [(w.heap.size, 48, mcA Mc.zero)] := (Trk.nil w).push (t := 48) (cs := mcA Mc.zero) rfl
  refine (C1.out _).mono ?_
  rintro r w1 ⟨rfl, rfl⟩
  obtain ⟨q0, f0, -⟩ := T0.rules
  obtain ⟨l0, -⟩ := T0.lts
  go_wp2_with fail
  refine bodyPost_ret (v := .tuple #[.agg (mcA Mc.zero), .bool false]) (results_takeM (s1 := 4) (s2 := 5) (by kernel_rfl) _ w.heap.size Mc.zero false _ rfl rfl (T0.blk _ _ _ List.mem_cons_self)) rfl ⟨rfl, T0.below⟩
set_option maxHeartbeats 2000000 in
theorem ntake_none (k : Int) (A1 : Option Addr) (n1 c1 : Nat) (hB : Blk w h 82 (netA (.slice A1 n1 c1) C)) (hk : decide (0 ≤ k ∧ k < (n1 : Int)) = false) :
    Calls Try.prog 39 #[.pointer (some ⟨h, 0, none⟩), .int .i64 k] w fun e w' => e = .returned (.tuple #[.agg (mcA Mc.zero), .bool false]) ∧ Below w.heap.size w w' := by
  have C1 := Lib.hid fun (W : World) (hW : Below w.heap.size w W) => nthere h A1 n1 c1 C k false hk W (hB.below hW hB.lt)
  clear hB hk
  go_enter Try.func39, Try.ntmps39
  go_wp2_with fail
  have T0 : Trk w _ [(w.heap.size, 48, mcA Mc.zero)] := (Trk.nil w).push (t := 48) (cs := mcA Mc.zero) rfl
  refine (C1.out _ T0.below).mono ?_
  rintro r w1 ⟨rfl, rfl⟩
  obtain ⟨q0, f0, -⟩ := T0.rules
  obtain ⟨l0, -⟩ := T0.lts
  go_wp2_with fail
  refine bodyPost_ret (v := .tuple #[.agg (mcA Mc.zero), .bool false]) (results_takeM (s1 := 4) (s2 := 5) (by kernel_rfl) _ w.heap.size Mc.zero false _ rfl rfl (T0.blk _ _ _ List.mem_cons_self)) rfl ⟨rfl, T0.below⟩
set_option maxHeartbeats 4000000 in
theorem ntake_ok (k : Nat) (m : Ms) (hk : L[k]? = some m) (N : Net w0 w bs h s X L C) :
    Calls Try.prog 39 #[.pointer (some ⟨h, 0, none⟩), .int .i64 (k : Int)] w fun e w' => ∃ u, e = .returned (.tuple #[.agg (mcA ⟨m.k, m.f, m.t, m.d, u, m.n, m.a⟩), .bool true]) ∧ w'.ownsRow w0.heap.size 68 14 u m.l.length (ecells m.l) ∧ NetTo w0 w w' bs h s X (L.eraseIdx k) C := by
  obtain ⟨x, hx, eq, ox, om⟩ := N.evs.get hk
  have hkX : k < X.length := (List.getElem?_eq_some_iff.1 hx).1
  obtain ⟨A1, c1, rfl, hc1, hm1, hrd⟩ := own_open N.own
  obtain ⟨Ax, cx, ex, hcx, hmx, hrx⟩ := own_open ox
  rw [ex] at eq
  subst eq
  clear ex
  dsimp only at ox
  have C1 := Lib.hid fun (W : World) (hW : Below w.heap.size w W) => nthere h A1 X.length c1 C (k : Int) true (decide_eq_true ⟨by omega, by omega⟩) W (N.blk.below hW N.T.lt)
  have C2 := Lib.hid fun (W : World) (hW : W.ownsRow w0.heap.size 48 12 (.slice A1 X.length c1) X.length (mcells X)) => ndelete w0.heap.size X.length c1 k A1 hkX X rfl N.sl W hW
  obtain ⟨bx, o1, rfl, hbx, -⟩ := MRows.at_ hrd hx
  clear hrx om
  have HX := Lib.hid hx
  have HRD := Lib.hid hrd
  have OX := Lib.hid ox
  clear hx hk hrd ox
  have a1 : (0 : Int) ≤ (k : Int) := by omega
  have a2 : (k : Int) < (X.length : Int) := by omega
  have hw0 := N.T.below.size
  have hx9 : X.length ≤ 9223372036854775807 := Nat.le_trans hc1 hm1
  go_enter Try.func39, Try.ntmps39
  go_wp2_with fail
  have N1 : Net w0 _ ((w.heap.size, 48, mcA Mc.zero) :: bs) h (.slice (some ⟨bx, o1, none⟩) X.length c1) X L C := N.push (t := 48) (cs := mcA Mc.zero) rfl
  have B1 : Below w.heap.size w _ := (Below.refl w.heap.size w).alloc (Nat.le_refl _) (.cells (mcA Mc.zero) 48 (0, 0))
  have hz1 : w.heap.size + 1 = (w.alloc (.cells (mcA Mc.zero) 48)).heap.size := by simp
  refine (C1.out _ B1).mono ?_
  rintro r w1 ⟨rfl, rfl⟩
  generalize w.alloc _ = w1 at N1 B1 hz1 ⊢
  obtain ⟨bx', o1', ea, hbx', y0, y1, y2, y3, y4, y5, y6, y7, y8, y9, y10, y11⟩ := MRows.at_ (HRD.out.below B1) HX.out
  obtain ⟨rfl, rfl⟩ : bx = bx' ∧ o1 = o1' := by simpa using ea
  clear ea
  obtain ⟨q0, f0, q1, f1, -⟩ := N1.T.rules
  obtain ⟨l0, l1, -⟩ := N1.T.lts
  have x0 : w1.cell? ⟨h, 0, none⟩ = some (.slice (some ⟨bx, o1, none⟩) X.length c1) := q0 0
  clear q0
  have HZ1 := Lib.hid hz1
  clear hz1
  go_upto_region 4 with fail
  have N2 : Net w0 _ ((w1.heap.size, 48, mcA ⟨m.k, m.f, m.t, m.d, .slice Ax m.l.length cx, m.n, m.a⟩) :: (w.heap.size, 48, mcA Mc.zero) :: bs) h (.slice (some ⟨bx, o1, none⟩) X.length c1) X L C := N1.push (t := 48) (cs := mcA ⟨m.k, m.f, m.t, m.d, .slice Ax m.l.length cx, m.n, m.a⟩) rfl
  have B2 := B1.alloc B1.size (.cells (mcA ⟨m.k, m.f, m.t, m.d, .slice Ax m.l.length cx, m.n, m.a⟩) 48 (0, 0))
  generalize w1.alloc _ = w2 at N2 B2 ⊢
  have own2 := (OX.out : w.ownsRow w0.heap.size 68 14 (.slice Ax m.l.length cx) m.l.length (ecells m.l))
  replace own2 := ownsRow_below own2 B2
  have hz2 := B2.size
  clear y0 y1 y2 y3 y4 y5 y6 y7 y8 y9 y10 y11 x0 q1 f0 f1 l0 l1 hbx' HRD HX OX C1 hbx
  obtain ⟨q0, f0, q1, f1, q2, f2, -⟩ := N2.T.rules
  obtain ⟨l0, l1, l2, -⟩ := N2.T.lts
  have x0 : w2.cell? ⟨h, 0, none⟩ = some (.slice (some ⟨bx, o1, none⟩) X.length c1) := q0 0
  clear q0
  go_wp2_with fail
  refine (C2.out w2 N2.own).mono ?_
  rintro r w3 ⟨rfl, own', hg⟩
  have hlt3 := hg.size
  have hb3 : w3.heap[h]? = w2.heap[h]? := hg.block h l0 (fun e => N2.s_ne e.symm)
  have x3 : w3.cell? ⟨h, 0, none⟩ = some (.slice (some ⟨bx, o1, none⟩) X.length c1) := (World.cell?_of_block hb3).trans x0
  have f3 : w3.frozen? ⟨h, 0, none⟩ = false := (World.frozen?_of_block hb3).trans (f0 0)
  have HB3 := Lib.hid hb3
  have HG := Lib.hid hg
  have OWN := Lib.hid own'
  have OWN2 := Lib.hid own2
  clear x0 f0 q1 f1 q2 f2 hb3 hg own' own2
  go_upto_region 5 with fail
  have hb3 := HB3.out
  have hg := HG.out
  have own' := OWN.out
  have own2 := OWN2.out
  have F3 : Fr w2 (w3.setCell ⟨h, 0, none⟩ (.slice (some ⟨bx, o1, none⟩) (X.length - 1) c1)) h (Value.slice (some ⟨bx, o1, none⟩) X.length c1).ownBlock := (Fr.of_grown hg).set _ rfl _
  have b3 : Blk w3 h 82 (netA (.slice (some ⟨bx, o1, none⟩) X.length c1) C) := hb3.trans N2.blk
  have b4 : Blk (w3.setCell ⟨h, 0, none⟩ (.slice (some ⟨bx, o1, none⟩) (X.length - 1) c1)) h 82 (netA (.slice (some ⟨bx, o1, none⟩) (X.length - 1) c1) C) := b3.set_ 0 _
  have hle : (X.eraseIdx k).length = X.length - 1 := List.length_eraseIdx_of_lt hkX
  have own4 := (Fr.of_set (w := w3) (r := none) ⟨h, 0, none⟩ rfl (.slice (some ⟨bx, o1, none⟩) (X.length - 1) c1)).own own' (fun e => N2.s_ne e) (.inr (by simp [Value.ownBlock]))
  have N4 := N2.move F3 b4 (X' := X.eraseIdx k) (L' := L.eraseIdx k) (by rw [hle]; exact own4) (.inl rfl) ((N2.evs' F3).erase k)
  have own5 := F3.own own2 (N2.ev_ne own2).1 (N2.ev_ne own2).2
  have F4 : Fr w _ h (Value.slice (some ⟨bx, o1, none⟩) X.length c1).ownBlock := (Fr.of_below B2).trans F3
  clear F3 b3 b4 own4 N2 own2 hg own' hb3 x3 f3 l1 l2 N hle l0
  generalize (World.setCell _ _ _) = w4 at N4 own5 F4 ⊢
  obtain ⟨q0, f0, q1, f1, q2, f2, -⟩ := N4.T.rules
  obtain ⟨l0, l1, l2, -⟩ := N4.T.lts
  clear q0 f0
  go_wp2_with fail
  have N5 := N4.swap.setMsg hw0 ⟨m.k, m.f, m.t, m.d, .slice Ax m.l.length cx, m.n, m.a⟩
  have B5 := setMsg_below (Below.refl w.heap.size w4) (Nat.le_refl _) ⟨m.k, m.f, m.t, m.d, .slice Ax m.l.length cx, m.n, m.a⟩
  have F5 := (setMsg_fr w4 w.heap.size ⟨m.k, m.f, m.t, m.d, .slice Ax m.l.length cx, m.n, m.a⟩).own own5 (own_blk_ne own5 (N4.swap.T.blk w.heap.size _ (mcA Mc.zero) (List.mem_cons_of_mem _ List.mem_cons_self)) (by decide)) (by cases Ax <;> simp [Value.ownBlock])
  have T5 := N5.T.blk w.heap.size _ _ (List.mem_cons_of_mem _ List.mem_cons_self)
  unfold setMsg at N5 B5 F5 T5
  dsimp only at N5 B5 F5 T5
  generalize (World.setCell _ _ _) = w5 at N5 B5 F5 T5 ⊢
  refine bodyPost_ret (v := .tuple #[.agg (mcA ⟨m.k, m.f, m.t, m.d, .slice Ax m.l.length cx, m.n, m.a⟩), .bool true]) (results_takeM (s1 := 4) (s2 := 5) (by kernel_rfl) _ w.heap.size _ true _ rfl rfl T5) rfl ⟨_, rfl, F5, _, _, N5.drop.drop, F4.low B5, .inl rfl, fun x hx => .inl (List.mem_of_mem_eraseIdx hx)⟩
end
end Go.Proofs.Ytnhjphmcdamoaaa
