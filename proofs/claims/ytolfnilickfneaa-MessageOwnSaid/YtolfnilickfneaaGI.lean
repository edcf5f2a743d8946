/-
  The walk of package message: writers.
  The walks of package message: what its kinds write.
-/
import Derived.Test.YtolfnilickfneaaMr
import Derived.Carry
import Derived.Maps.Own
import Derived.Test.YtolfnilickfneaaEp
import Derived.Test.YtolfnilickfneaaOct
namespace Go.Proofs.Ytolfnilickfneaa
set_option linter.unusedVariables false
set_option linter.unusedSimpArgs false
open Go.RowKit Go.ChangeMaps Go.MapKept Go.Maps
set_option maxRecDepth 100000

/-- The two writers. -/
def wrs : Array MapEntry := #[⟨.int .u8 1, .func (.func 88) #[] #[], 0⟩, ⟨.int .u8 2, .func (.func 89) #[] #[], 1⟩]
theorem check_u8 (w : World) (b : Bool) (k : Int) (h : 0 ≤ k ∧ k ≤ 255) : (Instr.checkKey b 10000 5 (.int .u8 k)).run Try.prog w = .ok () w :=
  (int_keyed Try.underlying5).check w b (keyOf_int_mk Try.underlying5 (by simp [Lit.wf, IntKind.min, IntKind.max, IntKind.signed, IntKind.bits]; omega))
theorem run_ins1 (w : World) (g : Nat) (v : Value) (hb : w.heap[g]? = some (.map #[] 0)) : (Instr.mapUpdate 90 (.map (some g)) (.int .u8 1) v).run Try.prog w = .ok () (setBlock w g (.map #[⟨.int .u8 1, v, 0⟩] 1)) := by
  simp [Instr.mapUpdate, run_underlying Try.underlying90, MapKept.run_getObj_map hb, check_u8, Instr.findKey, run_underlying Try.underlying5, Instr.findNow, MapKept.run_setObj_map _ hb, Result.andThen, setBlock]
theorem run_ins2 (w : World) (g : Nat) (v u : Value) (hb : w.heap[g]? = some (.map #[⟨.int .u8 1, u, 0⟩] 1)) : (Instr.mapUpdate 90 (.map (some g)) (.int .u8 2) v).run Try.prog w = .ok () (setBlock w g (.map #[⟨.int .u8 1, u, 0⟩, ⟨.int .u8 2, v, 1⟩] 2)) := by
  simp [Instr.mapUpdate, run_underlying Try.underlying90, MapKept.run_getObj_map hb, check_u8, Instr.findKey, run_underlying Try.underlying5, Instr.findNow, Instr.sameNow, MapKept.run_setObj_map _ hb, Result.andThen, setBlock]
theorem run_wr1 (w : World) (g : Nat) (hb : w.heap[g]? = some (.map wrs 2)) : (Instr.lookup 90 (.map (some g)) (.int .u8 1) false).run Try.prog w = .ok (.func (.func 88) #[] #[]) w := by
  simp [Instr.lookup, run_underlying Try.underlying90, MapKept.run_getObj_map hb, check_u8, Instr.findKey, run_underlying Try.underlying5, wrs, Instr.findNow, Instr.sameNow, Result.andThen]
theorem run_wr2 (w : World) (g : Nat) (hb : w.heap[g]? = some (.map wrs 2)) : (Instr.lookup 90 (.map (some g)) (.int .u8 2) false).run Try.prog w = .ok (.func (.func 89) #[] #[]) w := by
  simp [Instr.lookup, run_underlying Try.underlying90, MapKept.run_getObj_map hb, check_u8, Instr.findKey, run_underlying Try.underlying5, wrs, Instr.findNow, Instr.sameNow, Result.andThen]
/-- The map of the writers. -/
def WrsIs (u : Value) (w : World) : Prop := ∃ g, u = .map (some g) ∧ g < w.heap.size ∧ w.heap[g]? = some (.map wrs 2)
theorem WrsIs.keep (u : Value) (w w' : World) (h : WrsIs u w) (hb : Below w.heap.size w w') : WrsIs u w' := by
  obtain ⟨g, e, hg, hh⟩ := h
  exact ⟨g, e, Nat.lt_of_lt_of_le hg hb.size, (hb.block g hg).trans hh⟩
theorem mwriters (w : World) : Calls Try.prog 77 #[] w fun r w' => ∃ u, r = .returned u ∧ WrsIs u w' ∧ Below w.heap.size w w' := by
  have hb1 : (w.alloc (.map #[] 0)).heap[w.heap.size]? = some (.map #[] 0) := heap_alloc_new w _
  have h1 := run_ins1 (w.alloc (.map #[] 0)) w.heap.size (.func (.func 88) #[] #[]) hb1
  have hb2 := heap_setBlock_same hb1 (.map #[⟨.int .u8 1, .func (.func 88) #[] #[], 0⟩] 1)
  have h2 := run_ins2 _ w.heap.size (.func (.func 89) #[] #[]) _ hb2
  have hb3 : _ = some (Obj.map wrs 2) := heap_setBlock_same hb2 (.map wrs 2)
  have hW : ∃ w2 : World, w2 = setBlock (setBlock (w.alloc (.map #[] 0)) w.heap.size (.map #[⟨.int .u8 1, .func (.func 88) #[] #[], 0⟩] 1)) w.heap.size (.map wrs 2) ∧ Below w.heap.size w w2 := by
    refine ⟨_, rfl, rfl, rfl, rfl, by simp [setBlock], fun k hk => ?_⟩
    have e1 := heap_setBlock_other hb2 (.map wrs 2) (i := k) (by omega)
    have e2 := heap_setBlock_other hb1 (.map #[⟨.int .u8 1, .func (.func 88) #[] #[], 0⟩] 1) (i := k) (by omega)
    rw [e1, e2]
    exact Below.heap_alloc w _ k hk
  obtain ⟨w2, hw2, hbel⟩ := hW
  have hh : w2.heap[w.heap.size]? = some (.map wrs 2) := by rw [hw2]; exact hb3
  have hlt : w.heap.size < w2.heap.size := (Array.getElem?_eq_some_iff.1 hh).1
  rw [show setBlock (setBlock (w.alloc (.map #[] 0)) w.heap.size (.map #[⟨.int .u8 1, .func (.func 88) #[] #[], 0⟩] 1)) w.heap.size (.map #[⟨.int .u8 1, .func (.func 88) #[] #[], 0⟩, ⟨.int .u8 2, .func (.func 89) #[] #[], 1⟩] 2) = w2 from hw2.symm] at h2
  clear hw2 hb1 hb2 hb3
  have hmm := @run_makeMap Try.prog
  go_enter Try.func77, Try.ntmps77
  go_wp2_with fail
  go_ret
  exact ⟨_, rfl, ⟨_, rfl, hlt, hh⟩, hbel⟩
end Go.Proofs.Ytolfnilickfneaa
namespace Go.Proofs.Ytolfnilickfneaa
set_option linter.unusedVariables false
set_option linter.unusedSimpArgs false
open Go.RowKit
set_option maxRecDepth 100000

theorem putsE_length_le' (L : List Ev) : (putsE L).length ≤ 91 * L.length := by
  induction L with
  | nil => exact Nat.le_refl _
  | cons e L ih =>
    have := putE_length_le e
    simp only [putsE, List.flatMap_cons, List.length_append, List.length_cons] at ih ⊢
    omega
theorem mwr1 (m : Ms) (o : m.ok) (A : Option Addr) (c base : Nat) (v : Value) (h : List Int) (w : World) (hL : ERows w base A m.l) (hc : m.l.length ≤ c) (hm : c ≤ maxLen) (hn : m.l.length ≤ 16) (hh : h.length ≤ 51) (hown : w.ownsRow base 5 1 v h.length (bcells h)) (hbw : base ≤ w.heap.size) :
    Calls Try.prog 88 #[v, .agg (mcA ⟨m.k, m.f, m.t, m.d, .slice A m.l.length c, m.n, m.a⟩)] w fun r w' => ∃ u, r = .returned u ∧ w'.ownsRow base 5 1 u (h ++ putsE m.l).length (bcells (h ++ putsE m.l)) ∧ Below base w w' := by
  have hm1 : c ≤ 9223372036854775807 := hm
  have HL := Lib.hid hL
  have OK := Lib.hid o.l
  obtain ⟨k0, f0, t0, d0, L, n0, a0⟩ := m
  simp only at *
  clear hL o
  go_enter Try.func88, Try.ntmps88
  go_wp2_with fail
  have hb0 := (Below.refl base w).alloc hbw (.cells (mcA ⟨k0, f0, t0, d0, .slice A L.length c, n0, a0⟩) 54)
  have hown0 := hown.alloc (.cells (mcA ⟨k0, f0, t0, d0, .slice A L.length c, n0, a0⟩) 54)
  generalize w.alloc _ = w1 at hb0 hown0 ⊢
  go_loopw [0, 10] (fun b i wr => ∃ k : Nat, k ≤ L.length ∧ i = .int .i64 k ∧ wr.ownsRow base 5 1 b (h ++ putsE (L.take k)).length (bcells (h ++ putsE (L.take k))) ∧ Below base w wr) (fun _ i _ => L.length - (intOf i).toNat)
  case atStart => exact ⟨0, by omega, rfl, by simpa [putsE] using hown0, hb0⟩
  case round =>
    clear hown0 hb0 hown
    obtain ⟨k, hk, rfl, hown, hb⟩ := hrel
    by_cases hlt : k < L.length
    · obtain ⟨x, hx⟩ : ∃ x, L[k]? = some x := ⟨L[k], List.getElem?_eq_getElem hlt⟩
      have okx := OK.out x (List.mem_of_getElem? hx)
      obtain ⟨b1, o1, rfl, hb1, x0, x1, x2, x3, x4, x5, x6, x7, x8, x9, x10, x11, x12, x13⟩ := ERows.at_ (HL.out.below hb) hx
      have hsz := hb.size
      have hb2 : b1 < wr.heap.size := by omega
      have i1 : (0 : Int) ≤ (k : Int) := by omega
      have i2 : (k : Int) < (L.length : Int) := by omega
      have hsn : putsE (L.take (k + 1)) = putsE (L.take k) ++ putE x := by rw [List.take_add_one, hx]; exact putsE_snoc _ _
      have hl0 : (putsE (L.take k)).length ≤ 91 * 16 := by have := putsE_length_le' (L.take k); rw [List.length_take] at this; omega
      have hl1 := putE_length_le x
      have C2 := Lib.hid (eput x okx)
      have hln : (h ++ putsE (L.take k)).length ≤ 2000 := by rw [List.length_append]; omega
      have e1 : h ++ putsE (L.take (k + 1)) = (h ++ putsE (L.take k)) ++ putE x := by rw [hsn, List.append_assoc]
      have E1 := Lib.hid e1
      generalize hmk : h ++ putsE (L.take k) = mk at hown hln E1
      generalize hpx : putE x = px at hl1 C2 E1
      clear hx hsn hmk hpx hl0 e1
      go_upto_region 4 with fail
      have hBx : Blk (wr.alloc (.cells (evA x) 41)) wr.heap.size 41 (evA x) := Blk.new _ _ _
      have hlx := hBx.lt
      obtain ⟨qx, fx⟩ := hBx.rules
      have hown3 := hown.alloc (.cells (evA x) 41)
      have hb3 := hb.alloc (Nat.le_trans hbw hsz) (.cells (evA x) 41)
      clear hBx x0 x1 x2 x3 x4 x5 x6 x7 x8 x9 x10 x11 x12 x13 hown
      generalize wr.alloc _ = w3 at qx fx hlx hown3 hb3 ⊢
      go_wp2_with fail
      refine (C2.out _).mono ?_
      rintro r w4 ⟨u4, rfl, hown4, hb4⟩
      obtain ⟨A4, c4, rfl, -, -, hR4⟩ := own_open hown4
      have hown5 := ownsRow_below hown3 hb4
      have hb5 := hb3.trans (hb4.mono (Nat.le_trans hbw hb3.size))
      clear hown4 hown3 hb4 qx fx
      go_wp2_with (at_builtin; refine append_u8s _ rfl (.tmp 14) (.tmp 16) rfl base _ mk px rfl hown5 A4 c4 _ rfl (rd_brows hR4) (by omega) (by have := hb5.size; omega) ?_; intro v' w' hown' hb')
      go_roundw
      case rel => exact ⟨k + 1, by omega, by go_num, by rw [E1.out]; exact hown', hb5.trans hb'⟩
      case measure => simp [intOf]; omega
    · obtain rfl : k = L.length := by omega
      rw [List.take_of_length_le (Nat.le_refl _)] at hown
      go_wp2_with fail
      go_ret
      exact ⟨_, rfl, hown, hb⟩
theorem mwr2 (m : Ms) (o : m.ok) (A : Option Addr) (c base : Nat) (v : Value) (h : List Int) (w : World) (ha : 1 ≤ m.a) (hh : h.length ≤ 51) (hown : w.ownsRow base 5 1 v h.length (bcells h)) (hbw : base ≤ w.heap.size) :
    Calls Try.prog 89 #[v, .agg (mcA ⟨m.k, m.f, m.t, m.d, .slice A m.l.length c, m.n, m.a⟩)] w fun r w' => ∃ u, r = .returned u ∧ w'.ownsRow base 5 1 u (h ++ (wordL m.n ++ wordL m.a)).length (bcells (h ++ (wordL m.n ++ wordL m.a))) ∧ Below base w w' := by
  obtain ⟨A1, c1, rfl, hc1, hm1, hR⟩ := own_open hown
  have hw := hR
  have o1 := o.n
  have o2 := o.a
  have hau : IntKind.u64.wrap m.a = m.a := by rw [IntKind.wrap_u64]; omega
  have C1 := Lib.hid fun (W : World) (hW : Below w.heap.size w W) => oput8 A1 c1 h w.heap.size m.n W ((rd_brows hR).below hW) hW.size hc1 hm1 (by omega) o1.1 o1.2
  have HAU := Lib.hid hau
  have hl8 : (h ++ putL m.n 8).length ≤ 59 := by rw [putL_8, List.length_append, wordL_length]; omega
  have HE := Lib.hid (show h ++ (wordL m.n ++ wordL m.a) = (h ++ putL m.n 8) ++ putL m.a 8 from by rw [putL_8, putL_8, List.append_assoc])
  generalize h ++ putL m.n 8 = h2 at C1 hl8 HE
  clear hR hw hau o hown
  go_enter Try.func89, Try.ntmps89
  go_wp2_with fail
  have T0 : Trk w _ [(w.heap.size, 54, mcA ⟨m.k, m.f, m.t, m.d, .slice A m.l.length c, m.n, m.a⟩)] := (Trk.nil w).push (t := 54) (cs := mcA ⟨m.k, m.f, m.t, m.d, .slice A m.l.length c, m.n, m.a⟩) rfl
  refine (C1.out _ T0.below).mono ?_
  rintro r w2 ⟨u2, rfl, hown2, hb2⟩
  obtain ⟨A2, c2, rfl, hc2, hm2, hR2⟩ := own_open hown2
  have T1 := T0.call hb2
  have C2 := Lib.hid (oput8 A2 c2 h2 w2.heap.size m.a w2 (rd_brows hR2) (Nat.le_refl _) hc2 hm2 (by omega) (by omega) (by omega))
  generalize h2 ++ putL m.a 8 = h3 at C2 HE
  clear T0 hb2 hR2 hown2
  obtain ⟨q0, -, -⟩ := T1.rules
  obtain ⟨l0, -⟩ := T1.lts
  have hau := HAU.out
  go_wp2_with fail
  refine C2.out.mono ?_
  rintro r w3 ⟨u3, rfl, hown3, hb3⟩
  obtain ⟨A3, c3, rfl, -, -, -⟩ := own_open hown3
  have T2 := T1.call hb3
  clear q0 l0 hau
  go_wp2_with fail
  go_ret
  refine ⟨_, rfl, ?_, T2.below.mono hbw⟩
  rw [HE.out]
  exact own_mono hown3 (Nat.le_trans hbw T1.below.size)
end Go.Proofs.Ytolfnilickfneaa
