/-
  Arguments that are acts, and steps of chapter 15's statements, opened.
-/
import Derived.Test.YtgbbhkdaalnchaaGN
import Derived.Test.YtgbbhkdaalnchaaGS
namespace Go.Proofs.Ytgbbhkdaalnchaa
set_option linter.unusedVariables false
set_option linter.unusedSimpArgs false
open Go.ChangeShapes Go.WideShapes Go.ChangeAt Go.RowKit

theorem cells_bool : Try.prog.cellsOf 4 = 1 := by kernel_rfl
theorem cells_u16 : Try.prog.cellsOf 34 = 1 := by kernel_rfl
theorem cells_act : Try.prog.cellsOf 36 = 9 := by kernel_rfl
theorem cells_hst : Try.prog.cellsOf 67 = 18 := by kernel_rfl
theorem wf_u16 {n : Int} (h : (Lit.int .u16 n).wf = true) : 0 ≤ n ∧ n ≤ 65535 := by
  simpa [Lit.wf, IntKind.min, IntKind.max, IntKind.signed, IntKind.bits] using h
section
variable {H : Type} {enc : TypeId × Value → H}
set_option maxRecDepth 100000 in
/-- Rows of any element that is known by its cells. -/
theorem open_flat {α : Type} {c : α → Array Value} {sz : Nat} {t e : TypeId} {ok : α → Prop} (hu : Try.prog.underlying t = some (.slice e)) (hcl : Try.prog.cellsOf e = sz) (h0 : 0 < sz) (hc : ∀ x, (c x).size = sz)
    {r : Reach} {b0 : Nat} {w : World} {v : Value} {d : DataW H} {p : List MemPlace} (htr : ∀ (n : Nat) (cs : List Value) (x : DataW H × List MemPlace), DataW.trod enc Try.prog w 0 (fun _ => true) true n e cs = some x → ∃ z : α, cs = (c z).toList ∧ ok z)
    (hval : Value.okWide Try.prog w r b0 t v) (h : DataW.Trod enc Try.prog w 0 (fun _ => true) true t v d p) :
    ∃ (A : Option Addr) (cap : Nat) (L : List α), v = .slice A L.length cap ∧ RowsIn w sz c A L cap ∧ ∀ u ∈ L, ok u := by
  obtain ⟨A, len, cap, F, rfl, hl, hm, hcc, hF⟩ := open_rows hu hcl h0 hval h
  obtain ⟨L, rfl, hL⟩ := list_of (P := fun i (u : α) => F i = (c u).toList ∧ ok u) len fun i hi => by
    obtain ⟨_, n, x, hx⟩ := hF i hi
    exact htr n _ x hx
  refine ⟨A, cap, L, rfl, ⟨⟨flat_length hc L, fun hne => ?_⟩, hl, hm⟩, fun u hu => ?_⟩
  · obtain ⟨b, o, hA, hlt, hcell⟩ := hcc hne
    refine ⟨b, o, hA, hlt, fun j u hu => ?_⟩
    have hj : j < L.length * sz := by have := (List.getElem?_eq_some_iff.1 hu).1; rwa [flat_length hc] at this
    have hjd : j / sz < L.length := Nat.div_lt_of_lt_mul (by rw [Nat.mul_comm]; exact hj)
    have hjm : j % sz < sz := Nat.mod_lt _ h0
    obtain ⟨e, he⟩ : ∃ e, L[j / sz]? = some e := ⟨L[j / sz]'hjd, List.getElem?_eq_getElem hjd⟩
    have h1 := hcell (j / sz) hjd (j % sz) hjm
    have h2 := flat_get hc he hjm
    rw [show j / sz * sz + j % sz = j from by rw [Nat.mul_comm]; exact Nat.div_add_mod j sz, hu] at h2
    rw [show o + j / sz * sz + j % sz = o + j from by rw [Nat.add_assoc, Nat.mul_comm (j / sz), Nat.div_add_mod j sz], (hL _ e he).1, Array.getElem?_toList, ← h2] at h1
    exact h1
  · obtain ⟨i, hi⟩ := List.getElem?_of_mem hu
    exact (hL i u hi).2
set_option maxRecDepth 100000 in
set_option maxHeartbeats 1000000 in
theorem trod_act {w : World} {base : Nat} {sp : Nat → Bool} {hd : Bool} {fuel : Nat} {cs : List Value} {x : DataW H × List MemPlace}
    (h : DataW.trod enc Try.prog w base sp hd fuel 36 cs = some x) : ∃ z : Ac, cs = (acA z).toList ∧ z.ok := by
  obtain ⟨xs, m, _, _, hl, hlen, hf⟩ := DataW.trod_struct Try.underlying36 h
  rw [cells_act] at hl
  match xs, hlen, cs, hl with
  | [y0, y1, y2, y3, y4, y5, y6, y7, y8], _, [c0, c1, c2, c3, c4, c5, c6, c7, c8], _ =>
    have t0 : DataW.trod enc Try.prog w base sp hd m 5 [c0] = some y0 := by have := hf 0 _ rfl; simpa [cells_u8] using this
    obtain ⟨n0, e0, _, w0⟩ := DataW.trod_int Try.underlying5 t0
    have t1 : DataW.trod enc Try.prog w base sp hd m 4 [c1] = some y1 := by have := hf 1 _ rfl; simpa [cells_bool] using this
    obtain ⟨b1, e1, _⟩ := DataW.trod_bool Try.underlying4 t1
    have t2 : DataW.trod enc Try.prog w base sp hd m 5 [c2] = some y2 := by have := hf 2 _ rfl; simpa [cells_u8] using this
    obtain ⟨n2, e2, _, w2⟩ := DataW.trod_int Try.underlying5 t2
    have t3 : DataW.trod enc Try.prog w base sp hd m 5 [c3] = some y3 := by have := hf 3 _ rfl; simpa [cells_u8] using this
    obtain ⟨n3, e3, _, w3⟩ := DataW.trod_int Try.underlying5 t3
    have t4 : DataW.trod enc Try.prog w base sp hd m 5 [c4] = some y4 := by have := hf 4 _ rfl; simpa [cells_u8] using this
    obtain ⟨n4, e4, _, w4⟩ := DataW.trod_int Try.underlying5 t4
    have t5 : DataW.trod enc Try.prog w base sp hd m 5 [c5] = some y5 := by have := hf 5 _ rfl; simpa [cells_u8] using this
    obtain ⟨n5, e5, _, w5⟩ := DataW.trod_int Try.underlying5 t5
    have t6 : DataW.trod enc Try.prog w base sp hd m 34 [c6] = some y6 := by have := hf 6 _ rfl; simpa [cells_u16] using this
    obtain ⟨n6, e6, _, w6⟩ := DataW.trod_int Try.underlying34 t6
    have t7 : DataW.trod enc Try.prog w base sp hd m 5 [c7] = some y7 := by have := hf 7 _ rfl; simpa [cells_u8] using this
    obtain ⟨n7, e7, _, w7⟩ := DataW.trod_int Try.underlying5 t7
    have t8 : DataW.trod enc Try.prog w base sp hd m 5 [c8] = some y8 := by have := hf 8 _ rfl; simpa [cells_u8] using this
    obtain ⟨n8, e8, _, w8⟩ := DataW.trod_int Try.underlying5 t8
    simp only [List.cons.injEq, and_true] at e0 e1 e2 e3 e4 e5 e6 e7 e8
    subst e0 e1 e2 e3 e4 e5 e6 e7 e8
    obtain ⟨a0, b0⟩ := wf_u8 w0
    obtain ⟨a2, b2⟩ := wf_u8 w2
    obtain ⟨a3, b3⟩ := wf_u8 w3
    obtain ⟨a4, b4⟩ := wf_u8 w4
    obtain ⟨a5, b5⟩ := wf_u8 w5
    obtain ⟨a6, b6⟩ := wf_u16 w6
    obtain ⟨a7, b7⟩ := wf_u8 w7
    obtain ⟨a8, b8⟩ := wf_u8 w8
    refine ⟨⟨n0.toNat, b1, n2.toNat, n3.toNat, n4.toNat, n5.toNat, n6.toNat, n7.toNat, n8.toNat⟩, ?_, ⟨?_, ?_, ?_, ?_, ?_, ?_, ?_, ?_⟩⟩
    · rw [acA_toList]
      simp only [Int.toNat_of_nonneg a0, Int.toNat_of_nonneg a2, Int.toNat_of_nonneg a3, Int.toNat_of_nonneg a4, Int.toNat_of_nonneg a5, Int.toNat_of_nonneg a6, Int.toNat_of_nonneg a7, Int.toNat_of_nonneg a8]
    all_goals (dsimp only; omega)
set_option maxRecDepth 100000 in
set_option maxHeartbeats 1000000 in
theorem trod_hst {w : World} {base : Nat} {sp : Nat → Bool} {hd : Bool} {fuel : Nat} {cs : List Value} {x : DataW H × List MemPlace}
    (h : DataW.trod enc Try.prog w base sp hd fuel 67 cs = some x) : ∃ z : Hs, cs = (hsA z).toList ∧ z.ok := by
  obtain ⟨xs, m, _, _, hl, hlen, hf⟩ := DataW.trod_struct Try.underlying67 h
  rw [cells_hst] at hl
  match xs, hlen, cs, hl with
  | [y0, y1, y2, y3, y4], _, [c0, c1, c2, c3, c4, c5, c6, c7, c8, c9, c10, c11, c12, c13, c14, c15, c16, c17], _ =>
    have t0 : DataW.trod enc Try.prog w base sp hd m 4 [c0] = some y0 := by have := hf 0 _ rfl; simpa [cells_bool] using this
    obtain ⟨b0, e0, _⟩ := DataW.trod_bool Try.underlying4 t0
    have t1 : DataW.trod enc Try.prog w base sp hd m 4 [c1] = some y1 := by have := hf 1 _ rfl; simpa [cells_bool] using this
    obtain ⟨b1, e1, _⟩ := DataW.trod_bool Try.underlying4 t1
    have t2 : DataW.trod enc Try.prog w base sp hd m 4 [c2] = some y2 := by have := hf 2 _ rfl; simpa [cells_bool] using this
    obtain ⟨b2, e2, _⟩ := DataW.trod_bool Try.underlying4 t2
    have t3 : DataW.trod enc Try.prog w base sp hd m 32 [c3, c4, c5, c6, c7, c8, c9, c10, c11, c12, c13, c14, c15, c16] = some y3 := by have := hf 3 _ rfl; simpa [cells_bool, cells_ev] using this
    obtain ⟨g, e3, ok⟩ := trod_ev t3
    have t4 : DataW.trod enc Try.prog w base sp hd m 5 [c17] = some y4 := by have := hf 4 _ rfl; simpa [cells_u8] using this
    obtain ⟨n4, e4, _, w4⟩ := DataW.trod_int Try.underlying5 t4
    simp only [evA_toList, List.cons.injEq, and_true] at e0 e1 e2 e3 e4
    obtain ⟨g1, g2, g3, g4, g5, g6, g7, g8, g9, g10, g11, g12, g13, g14⟩ := e3
    subst e0 e1 e2 e4 g1 g2 g3 g4 g5 g6 g7 g8 g9 g10 g11 g12 g13 g14
    obtain ⟨a4, b4⟩ := wf_u8 w4
    refine ⟨⟨b0, b1, b2, g, n4.toNat⟩, ?_, ok, ?_⟩
    · rw [hsA_toList]
      simp only [Int.toNat_of_nonneg a4]
    · dsimp only; omega
set_option maxRecDepth 100000 in
theorem open_acts {r : Reach} {b0 : Nat} {w : World} {v : Value} {d : DataW H} {p : List MemPlace} (hval : Value.okWide Try.prog w r b0 22 v) (h : DataW.Trod enc Try.prog w 0 (fun _ => true) true 22 v d p) :
    ∃ (A : Option Addr) (cap : Nat) (L : List Ac), v = .slice A L.length cap ∧ RowsIn w 9 acA A L cap ∧ ∀ u ∈ L, u.ok :=
  open_flat Try.underlying22 cells_act (by omega) acA_size (fun _ _ _ hx => trod_act hx) hval h
set_option maxRecDepth 100000 in
theorem open_hsts {r : Reach} {b0 : Nat} {w : World} {v : Value} {d : DataW H} {p : List MemPlace} (hval : Value.okWide Try.prog w r b0 62 v) (h : DataW.Trod enc Try.prog w 0 (fun _ => true) true 62 v d p) :
    ∃ (A : Option Addr) (cap : Nat) (L : List Hs), v = .slice A L.length cap ∧ RowsIn w 18 hsA A L cap ∧ ∀ u ∈ L, u.ok :=
  open_flat Try.underlying62 cells_hst (by omega) hsA_size (fun _ _ _ hx => trod_hst hx) hval h

set_option maxRecDepth 100000 in
theorem open_nums {r : Reach} {b0 : Nat} {w : World} {v : Value} {d : DataW H} {p : List MemPlace} (hval : Value.okWide Try.prog w r b0 23 v) (h : DataW.Trod enc Try.prog w 0 (fun _ => true) true 23 v d p) :
    ∃ (A : Option Addr) (cap : Nat) (L : List Nat), v = .slice A L.length cap ∧ RowsIn w 1 u8A A L cap ∧ ∀ u ∈ L, u ≤ 255 :=
  open_flat Try.underlying23 cells_u8 (by omega) (fun _ => rfl) (fun _ _ _ hx => by
    obtain ⟨k, h1, _, h2⟩ := DataW.trod_int Try.underlying5 hx
    obtain ⟨a, b⟩ := wf_u8 h2
    exact ⟨k.toNat, by rw [h1]; simp [u8A, Int.toNat_of_nonneg a], by omega⟩) hval h
end
end Go.Proofs.Ytgbbhkdaalnchaa
