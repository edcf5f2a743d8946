/-
  Arguments that are events, and slices of events, opened.
-/
import Derived.Test.YtgannlbhhanflaaClose
import Derived.Test.YtgannlbhhanflaaEvs
namespace Go.Proofs.Ytgannlbhhanflaa
set_option linter.unusedVariables false
set_option linter.unusedSimpArgs false
open Go.ChangeShapes Go.WideShapes Go.ChangeAt Go.RowKit

theorem cells_ev : Try.prog.cellsOf 40 = 14 := by kernel_rfl
theorem cells_i64 : Try.prog.cellsOf 3 = 1 := by kernel_rfl
theorem cells_i64' : Try.prog.cellsOf 2 = 1 := by kernel_rfl
section
variable {H : Type} {enc : TypeId × Value → H}
set_option maxRecDepth 100000 in
set_option maxHeartbeats 1000000 in
/-- The cells of an event that came in. -/
theorem trod_ev {w : World} {base : Nat} {sp : Nat → Bool} {hd : Bool} {fuel : Nat} {cs : List Value} {x : DataW H × List MemPlace}
    (h : DataW.trod enc Try.prog w base sp hd fuel 40 cs = some x) : ∃ e : Ev, cs = (evA e).toList ∧ e.ok := by
  obtain ⟨xs, m, _, _, hl, hlen, hf⟩ := DataW.trod_struct Try.underlying40 h
  rw [cells_ev] at hl
  match xs, hlen, cs, hl with
  | [y0, y1, y2, y3, y4, y5, y6, y7, y8], _, [c0, c1, c2, c3, c4, c5, c6, c7, c8, c9, c10, c11, c12, c13], _ =>
    have t0 : DataW.trod enc Try.prog w base sp hd m 3 [c0] = some y0 := by have := hf 0 _ rfl; simpa [cells_i64] using this
    obtain ⟨n0, e0, _, w0⟩ := DataW.trod_int Try.underlying3 t0
    have t1 : DataW.trod enc Try.prog w base sp hd m 22 [c1] = some y1 := by have := hf 1 _ rfl; simpa [cells_u64] using this
    obtain ⟨n1, e1, _, w1⟩ := DataW.trod_int Try.underlying22 t1
    have t2 : DataW.trod enc Try.prog w base sp hd m 24 [c2, c3, c4, c5, c6, c7] = some y2 := by have := hf 2 _ rfl; simpa [cells_vec] using this
    obtain ⟨d, e2, w2⟩ := trod_vec t2
    have t3 : DataW.trod enc Try.prog w base sp hd m 5 [c8] = some y3 := by have := hf 3 _ rfl; simpa [cells_u8] using this
    obtain ⟨n3, e3, _, w3⟩ := DataW.trod_int Try.underlying5 t3
    have t4 : DataW.trod enc Try.prog w base sp hd m 22 [c9] = some y4 := by have := hf 4 _ rfl; simpa [cells_u64] using this
    obtain ⟨n4, e4, _, w4⟩ := DataW.trod_int Try.underlying22 t4
    have t5 : DataW.trod enc Try.prog w base sp hd m 3 [c10] = some y5 := by have := hf 5 _ rfl; simpa [cells_i64] using this
    obtain ⟨n5, e5, _, w5⟩ := DataW.trod_int Try.underlying3 t5
    have t6 : DataW.trod enc Try.prog w base sp hd m 2 [c11] = some y6 := by have := hf 6 _ rfl; simpa [cells_i64'] using this
    obtain ⟨n6, e6, _, w6⟩ := DataW.trod_int Try.underlying2 t6
    have t7 : DataW.trod enc Try.prog w base sp hd m 22 [c12] = some y7 := by have := hf 7 _ rfl; simpa [cells_u64] using this
    obtain ⟨n7, e7, _, w7⟩ := DataW.trod_int Try.underlying22 t7
    have t8 : DataW.trod enc Try.prog w base sp hd m 22 [c13] = some y8 := by have := hf 8 _ rfl; simpa [cells_u64] using this
    obtain ⟨n8, e8, _, w8⟩ := DataW.trod_int Try.underlying22 t8
    simp only [vecA_toList, List.cons.injEq, and_true] at e0 e1 e2 e3 e4 e5 e6 e7 e8
    obtain ⟨g2, g3, g4, g5, g6, g7⟩ := e2
    subst e0 e1 e3 e4 e5 e6 e7 e8 g2 g3 g4 g5 g6 g7
    exact ⟨⟨n0, n1, d, n3, n4, n5, n6, n7, n8⟩, rfl, wf_i64 w0, wf_u64 w1, w2, wf_u8 w3, wf_u64 w4, wf_i64 w5, wf_i64 w6, wf_u64 w7, wf_u64 w8⟩
set_option maxRecDepth 100000 in
theorem open_ev {r : Reach} {b0 base : Nat} {w : World} {sp : Nat → Bool} {hd : Bool} {v : Value} {d : DataW H} {p : List MemPlace} (hval : Value.okWide Try.prog w r b0 40 v) (h : DataW.Trod enc Try.prog w base sp hd 40 v d p) :
    ∃ a : Ev, v = .agg (evA a) ∧ a.ok := by
  simp only [Value.okWide, Try.underlying40] at hval
  obtain ⟨cs, rfl, _, _⟩ := hval
  obtain ⟨fuel, hf⟩ := h
  obtain ⟨a, ha, hok⟩ := trod_ev hf
  refine ⟨a, ?_, hok⟩
  have : cs = evA a := Array.toList_inj.1 (by simpa [Value.cells] using ha)
  rw [this]
set_option maxRecDepth 100000 in
theorem open_evs {r : Reach} {b0 : Nat} {w : World} {v : Value} {d : DataW H} {p : List MemPlace} (hval : Value.okWide Try.prog w r b0 49 v) (h : DataW.Trod enc Try.prog w 0 (fun _ => true) true 49 v d p) :
    ∃ (A : Option Addr) (cap : Nat) (L : List Ev), v = .slice A L.length cap ∧ L.length ≤ cap ∧ cap ≤ maxLen ∧ ERows w w.heap.size A L ∧ ∀ u ∈ L, u.ok := by
  obtain ⟨A, len, cap, F, rfl, hl, hm, hc, hF⟩ := open_rows Try.underlying49 cells_ev (by omega) hval h
  obtain ⟨L, rfl, hL⟩ := list_of (P := fun i (u : Ev) => F i = (evA u).toList ∧ u.ok) len fun i hi => by
    obtain ⟨_, n, x, hx⟩ := hF i hi
    exact trod_ev hx
  refine ⟨A, cap, L, rfl, hl, hm, ⟨ecells_length L, fun hne => ?_⟩, fun u hu => ?_⟩
  · obtain ⟨b, o, hA, hlt, hcell⟩ := hc hne
    refine ⟨b, o, hA, hlt, fun j u hu => ?_⟩
    have hj : j < L.length * 14 := by have := (List.getElem?_eq_some_iff.1 hu).1; rwa [ecells_length] at this
    obtain ⟨e, he⟩ : ∃ e, L[j / 14]? = some e := ⟨L[j / 14]'(by omega), List.getElem?_eq_getElem (by omega)⟩
    have h1 := hcell (j / 14) (by omega) (j % 14) (by omega)
    have h2 := ecells_get L (j / 14) e he (j % 14) (by omega)
    rw [show j / 14 * 14 + j % 14 = j from by omega, hu] at h2
    rw [show o + j / 14 * 14 + j % 14 = o + j from by omega, (hL _ e he).1, Array.getElem?_toList, ← h2] at h1
    exact h1
  · obtain ⟨i, hi⟩ := List.getElem?_of_mem hu
    exact (hL i u hi).2
end
end Go.Proofs.Ytgannlbhhanflaa
