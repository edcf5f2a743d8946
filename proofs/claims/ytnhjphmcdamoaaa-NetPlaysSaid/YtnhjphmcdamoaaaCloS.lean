/-
  Arguments that are steps, opened.
-/
import Derived.Test.YtnhjphmcdamoaaaGN
import Derived.Test.YtnhjphmcdamoaaaStP
namespace Go.Proofs.Ytnhjphmcdamoaaa
set_option linter.unusedVariables false
set_option linter.unusedSimpArgs false
open Go.ChangeShapes Go.WideShapes Go.ChangeAt Go.RowKit

theorem cells_step : Try.prog.cellsOf 66 = 15 := by kernel_rfl
section
variable {H : Type} {enc : TypeId × Value → H}
set_option maxRecDepth 100000 in
set_option maxHeartbeats 1000000 in
theorem trod_step {w : World} {fuel : Nat} {cs : List Value} {x : DataW H × List MemPlace}
    (h : DataW.trod enc Try.prog w 0 (fun _ => true) true fuel 66 cs = some x) : ∃ z : Sc × Stp, cs = (scA z.1).toList ∧ ∃ A c, StIs w z.1 z.2 A c := by
  obtain ⟨xs, m, _, _, hl, hlen, hf⟩ := DataW.trod_struct Try.underlying66 h
  rw [cells_step] at hl
  match xs, hlen, cs, hl with
  | [y0, y1, y2, y3], _, [c0, c1, c2, c3, c4, c5, c6, c7, c8, c9, c10, c11, c12, c13, c14], _ =>
    have t0 : DataW.trod enc Try.prog w 0 (fun _ => true) true m 5 [c0] = some y0 := by have := hf 0 _ rfl; simpa [cells_u8] using this
    obtain ⟨n0, e0, _, w0⟩ := DataW.trod_int Try.underlying5 t0
    have t1 : DataW.trod enc Try.prog w 0 (fun _ => true) true m 48 [c1, c2, c3, c4, c5, c6, c7, c8, c9, c10, c11, c12] = some y1 := by have := hf 1 _ rfl; simpa [cells_msg] using this
    obtain ⟨g, A, c, e1, ok, h1, h2, h3⟩ := trod_msg t1
    have t2 : DataW.trod enc Try.prog w 0 (fun _ => true) true m 3 [c13] = some y2 := by have := hf 2 _ rfl; simpa [cells_i64] using this
    obtain ⟨n2, e2, _, w2⟩ := DataW.trod_int Try.underlying3 t2
    have t3 : DataW.trod enc Try.prog w 0 (fun _ => true) true m 3 [c14] = some y3 := by have := hf 3 _ rfl; simpa [cells_i64] using this
    obtain ⟨n3, e3, _, w3⟩ := DataW.trod_int Try.underlying3 t3
    simp only [mcA_toList, List.cons.injEq, and_true] at e0 e1 e2 e3
    obtain ⟨g1, g2, g3, g4, g5, g6, g7, g8, g9, g10, g11, g12⟩ := e1
    subst e0 e2 e3 g1 g2 g3 g4 g5 g6 g7 g8 g9 g10 g11 g12
    exact ⟨(⟨n0, ⟨g.k, g.f, g.t, g.d, .slice A g.l.length c, g.n, g.a⟩, n2, n3⟩, ⟨n0, g, n2, n3⟩), rfl, A, c, rfl, h1, h2, h3, ok, wf_u8 w0, wf_i64 w2, wf_i64 w3⟩
set_option maxRecDepth 100000 in
theorem open_steps {r : Reach} {b0 : Nat} {w : World} {v : Value} {d : DataW H} {p : List MemPlace} (hval : Value.okWide Try.prog w r b0 57 v) (h : DataW.Trod enc Try.prog w 0 (fun _ => true) true 57 v d p) :
    ∃ (A : Option Addr) (c : Nat) (P : List Stp), v = .slice A P.length c ∧ Steps w A c P := by
  obtain ⟨A, len, cap, F, rfl, hl, hm, hc, hF⟩ := open_rows Try.underlying57 cells_step (by omega) hval h
  obtain ⟨L, rfl, hL⟩ := list_of (P := fun i (u : Sc × Stp) => F i = (scA u.1).toList ∧ ∃ A c, StIs w u.1 u.2 A c) len fun i hi => by
    obtain ⟨_, n, x, hx⟩ := hF i hi
    exact trod_step hx
  refine ⟨A, cap, L.map (·.2), by rw [List.length_map], ⟨⟨L.map (·.1), by simp, ⟨by rw [scells_length]; simp, fun hne => ?_⟩, ?_⟩, by simpa using hl, hm⟩⟩
  · obtain ⟨b, o, hA, hlt, hcell⟩ := hc (by simpa using hne)
    refine ⟨b, o, hA, hlt, fun j u hu => ?_⟩
    have hj : j < L.length * 15 := by have := (List.getElem?_eq_some_iff.1 hu).1; rwa [scells_length, List.length_map] at this
    obtain ⟨e, he⟩ : ∃ e, L[j / 15]? = some e := ⟨L[j / 15]'(by omega), List.getElem?_eq_getElem (by omega)⟩
    have h1 := hcell (j / 15) (by omega) (j % 15) (by omega)
    have h2 := scells_get (L.map (·.1)) (j / 15) e.1 (by simp [he]) (j % 15) (by omega)
    rw [show j / 15 * 15 + j % 15 = j from by omega, hu] at h2
    rw [show o + j / 15 * 15 + j % 15 = o + j from by omega, (hL _ e he).1, Array.getElem?_toList, ← h2] at h1
    exact h1
  · clear hc hF hl
    have hall : ∀ u ∈ L, ∃ A c, StIs w u.1 u.2 A c := fun u hu => by
      obtain ⟨i, hi⟩ := List.getElem?_of_mem hu
      exact (hL i u hi).2
    clear hL hval h
    induction L with
    | nil => trivial
    | cons u L ih => exact ⟨hall u (by simp), ih fun v hv => hall v (by simp [hv])⟩
end
end Go.Proofs.Ytnhjphmcdamoaaa
