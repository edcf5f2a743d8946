/-
  What every law's row needs: arguments opened, the row's end out of 'it returns true and nothing that was there has turned'.
  Arguments that are events, and slices of events, opened.
-/
import Derived.Test.YtgbbhkdaalnchaaRows
import Derived.Test.YtgbbhkdaalnchaaGA
import Derived.ProofKit
import Derived.OpenShut
import Derived.Deep.Slices
import Derived.Test.YtgbbhkdaalnchaaGC
namespace Go.Proofs.Ytgbbhkdaalnchaa
set_option linter.unusedVariables false
set_option linter.unusedSimpArgs false
open Go.ChangeShapes Go.WideShapes Go.ChangeAt Go.RowKit

theorem own_Try : ownKnob Try.prog.godebug = none := by kernel_rfl
theorem laidOut_Try : laidOutB Try.prog = true := by kernel_rfl
theorem cells_vec : Try.prog.cellsOf 30 = 6 := by kernel_rfl
theorem cells_u64 : Try.prog.cellsOf 28 = 1 := by kernel_rfl

section
variable {H : Type} {enc : TypeId × Value → H}

/-- Arguments that nothing has written read as before. -/
theorem trodAll_stays {P : Program} (hl : laidOutB P = true) {W W' : World} {sp : Nat → Bool} (hb : Below W.heap.size W W') : ∀ (ts : List TypeId) (vs : List Value) (ds : List (DataW H)) (ps : List MemPlace),
    ts.all (fun t => P.readableRec t && decide (t < P.types.size)) = true → DataW.TrodAll enc P W 0 (fun _ => true) true ts vs ds ps → (∀ p ∈ ps, p.block < W.heap.size) → (∀ p ∈ ps, sp p.block = true) →
    DataW.TrodAll enc P W' 0 sp true ts vs ds ps
  | [], vs, ds, ps, _, h, _, _ => by
    cases vs <;> cases ds <;> simp_all [DataW.TrodAll]
  | t :: ts, vs, ds, ps, hts, h, hlt, hsp => by
    obtain ⟨v, vs', d, ds', p, q, rfl, rfl, rfl, h1, h2⟩ := trodAll_cons h
    simp only [List.all_cons, Bool.and_eq_true, decide_eq_true_eq] at hts
    exact ⟨p, q, WideElems.Trod_stays hl hts.1.1 hts.1.2 h1 (fun x hx => hb.same (hlt x (List.mem_append_left _ hx))) (fun x hx => hsp x (List.mem_append_left _ hx)),
      trodAll_stays hl hb ts vs' ds' q hts.2 h2 (fun x hx => hlt x (List.mem_append_right _ hx)) (fun x hx => hsp x (List.mem_append_right _ hx)), rfl⟩

/-- THE ROW's END. -/
theorem law_post {f : Func} {s : ChangeSpec} {W W' : World} {args : Array Value} {ds gs : List (DataW H)} {before : List MemPlace}
    (hW : DataW.Whole enc Try.prog f.params.toList s.vars false W args.toList ds gs before) (hb : Below W.heap.size W W') (hv : s.vars = [])
    (hts : f.params.toList.all (fun t => Try.prog.readableRec t && decide (t < Try.prog.types.size)) = true) (hrt : f.resultTypes = #[4])
    (h1 : (s.fn H (ds ++ gs)).results = [.lit (.bool true)]) (h2 : (s.fn H (ds ++ gs)).args = ds) (h3 : (s.fn H (ds ++ gs)).vars = []) :
    s.post enc Try.prog f false true false false W args (.bool true) W' := by
  have hlt : ∀ p ∈ before, p.block < W.heap.size := fun p hp => hW.lt p hp
  have hW2 := hW
  obtain ⟨p, q, hA, hV, rfl, _, _⟩ := hW2
  rw [hv] at hV
  obtain ⟨hg, hq⟩ := trodVars_none hV
  refine ⟨ds, gs, p ++ q, [], p, q, hW, ?_, ?_, ?_, World.keptBut_mono (fun x hx => ⟨hx, ?_⟩) (hb.frame (· ∈ p ++ q)), fun h => by cases h⟩
  · rw [h1, hrt]
    exact trodAll_mk1 (shut_bool Try.underlying4 true)
  · rw [h2]
    exact trodAll_stays laidOut_Try hb _ _ _ _ hts hA (fun x hx => hlt x (List.mem_append_left _ hx)) (fun x hx => by simpa using hlt x (List.mem_append_left _ hx))
  · rw [h3, hv, hq]
    rfl
  · exact Or.inr (by simpa using hx)

theorem wf_u64 {n : Int} (h : (Lit.int .u64 n).wf = true) : 0 ≤ n ∧ n ≤ 18446744073709551615 := by
  simpa [Lit.wf, IntKind.min, IntKind.max, IntKind.signed, IntKind.bits] using h
theorem wf_i64 {n : Int} (h : (Lit.int .i64 n).wf = true) : -9223372036854775808 ≤ n ∧ n ≤ 9223372036854775807 := by
  simpa [Lit.wf, IntKind.min, IntKind.max, IntKind.signed, IntKind.bits] using h
theorem wf_u8 {n : Int} (h : (Lit.int .u8 n).wf = true) : 0 ≤ n ∧ n ≤ 255 := by
  simpa [Lit.wf, IntKind.min, IntKind.max, IntKind.signed, IntKind.bits] using h

set_option maxRecDepth 100000 in
/-- The cells of a vector that came in. -/
theorem trod_vec {w : World} {base : Nat} {sp : Nat → Bool} {hd : Bool} {fuel : Nat} {cs : List Value} {x : DataW H × List MemPlace}
    (h : DataW.trod enc Try.prog w base sp hd fuel 30 cs = some x) : ∃ a : Vec, cs = (vecA a).toList ∧ a.ok := by
  obtain ⟨xs, m, _, _, hl, hxl, hi⟩ := DataW.trod_array Try.underlying30 h
  rw [cells_vec] at hl
  have hcell : ∀ i, i < 6 → ∃ n : Int, cs[i]? = some (.int .u64 n) ∧ 0 ≤ n ∧ n ≤ 18446744073709551615 := fun i hi6 => by
    have h1 := hi i hi6
    rw [cells_u64, Nat.mul_one, List.getElem?_eq_getElem (by omega)] at h1
    obtain ⟨n, hn, _, hw⟩ := DataW.trod_int Try.underlying28 h1
    refine ⟨n, ?_, wf_u64 hw⟩
    have hd : (cs.drop i).take 1 = [cs[i]'(by omega)] := by rw [List.drop_eq_getElem_cons (by omega)]; rfl
    rw [hd] at hn
    rw [List.getElem?_eq_getElem (by omega)]
    simpa using hn
  obtain ⟨n0, e0, w0⟩ := hcell 0 (by omega)
  obtain ⟨n1, e1, w1⟩ := hcell 1 (by omega)
  obtain ⟨n2, e2, w2⟩ := hcell 2 (by omega)
  obtain ⟨n3, e3, w3⟩ := hcell 3 (by omega)
  obtain ⟨n4, e4, w4⟩ := hcell 4 (by omega)
  obtain ⟨n5, e5, w5⟩ := hcell 5 (by omega)
  refine ⟨⟨n0, n1, n2, n3, n4, n5⟩, ?_, Vec.six (P := fun k => 0 ≤ (⟨n0, n1, n2, n3, n4, n5⟩ : Vec).get k ∧ (⟨n0, n1, n2, n3, n4, n5⟩ : Vec).get k ≤ 18446744073709551615) w0 w1 w2 w3 w4 w5⟩
  clear hi hxl h hcell
  match cs, hl, e0, e1, e2, e3, e4, e5 with
  | [c0, c1, c2, c3, c4, c5], _, e0, e1, e2, e3, e4, e5 =>
    simp at e0 e1 e2 e3 e4 e5
    subst e0 e1 e2 e3 e4 e5
    rfl
set_option maxRecDepth 100000 in
theorem open_vec {r : Reach} {b0 base : Nat} {w : World} {sp : Nat → Bool} {hd : Bool} {v : Value} {d : DataW H} {p : List MemPlace} (hval : Value.okWide Try.prog w r b0 30 v) (h : DataW.Trod enc Try.prog w base sp hd 30 v d p) :
    ∃ a : Vec, v = .agg (vecA a) ∧ a.ok := by
  simp only [Value.okWide, Try.underlying30] at hval
  obtain ⟨cs, rfl, _, _⟩ := hval
  obtain ⟨fuel, hf⟩ := h
  obtain ⟨a, ha, hok⟩ := trod_vec hf
  refine ⟨a, ?_, hok⟩
  have : cs = vecA a := Array.toList_inj.1 (by simpa [Value.cells] using ha)
  rw [this]

/-- From 'for every i there is one' to a list. -/
theorem list_of {α : Type} {P : Nat → α → Prop} : ∀ n : Nat, (∀ i, i < n → ∃ u, P i u) → ∃ L : List α, L.length = n ∧ ∀ i u, L[i]? = some u → P i u
  | 0, _ => ⟨[], rfl, fun i u h => by simp at h⟩
  | n + 1, h => by
    obtain ⟨L, hl, hL⟩ := list_of n fun i hi => h i (by omega)
    obtain ⟨u, hu⟩ := h n (by omega)
    refine ⟨L ++ [u], by simp [hl], fun i x hx => ?_⟩
    by_cases hi : i < n
    · rw [List.getElem?_append_left (by omega)] at hx
      exact hL i x hx
    · by_cases hn : i = n
      · subst hn
        rw [List.getElem?_append_right (by omega), hl, Nat.sub_self] at hx
        simp at hx; subst hx; exact hu
      · rw [List.getElem?_eq_none (by simp; omega)] at hx; cases hx

theorem add_none (a : Addr) (n : Nat) (hs : a.spot = none) : a.add n = ⟨a.block, a.off + n, none⟩ := by
  unfold Addr.add
  split
  · rename_i h; subst h; cases a; simp_all
  · cases a; simp_all
/-- A slice that came in: its elements' cells. -/
theorem open_rows {P : Program} {t e : TypeId} {s : Nat} {r : Reach} {b0 : Nat} {w : World} {v : Value} {d : DataW H} {p : List MemPlace} (ht : P.underlying t = some (.slice e)) (hs : P.cellsOf e = s) (hs0 : 0 < s)
    (hval : Value.okWide P w r b0 t v) (h : DataW.Trod enc P w 0 (fun _ => true) true t v d p) :
    ∃ (A : Option Addr) (len cap : Nat) (F : Nat → List Value), v = .slice A len cap ∧ len ≤ cap ∧ cap ≤ maxLen ∧
      (0 < len → ∃ b o, A = some ⟨b, o, none⟩ ∧ b < w.heap.size ∧ ∀ i, i < len → ∀ j, j < s → w.cell? ⟨b, o + i * s + j, none⟩ = (F i)[j]?) ∧
      ∀ i, i < len → (F i).length = s ∧ ∃ n x, DataW.trod enc P w 0 (fun _ => true) true n e (F i) = some x := by
  obtain ⟨A, len, cap, rfl⟩ := okWide_slice ht hval
  obtain ⟨fuel, hf⟩ := h
  rcases Deep.open_slice ht hf with ⟨hcs, _⟩ | ⟨a, len', cap', m, n, D, Pl, hcs, _, hl, hm, hmm, _, hi⟩
  · simp [Value.cells] at hcs
    obtain ⟨rfl, rfl, rfl⟩ := hcs
    exact ⟨_, _, _, fun _ => [], rfl, Nat.le_refl _, by decide, fun h => absurd h (by omega), fun i hi => absurd hi (by omega)⟩
  · simp [Value.cells] at hcs
    obtain ⟨rfl, rfl, rfl⟩ := hcs
    simp only [if_true] at hmm
    subst hmm
    rw [hs] at hi
    have hi' : ∀ i, i < len → ∃ cs' : List Value, (cs'.length = s ∧ ∀ j, j < s → w.cell? ((a.add (i * s)).add j) = cs'[j]?) ∧ ∃ n x, DataW.trod enc P w 0 (fun _ => true) true n e cs' = some x := fun i hlt => by
      obtain ⟨cs', hc, ht'⟩ := hi i (by omega)
      obtain ⟨_, hcl, hat⟩ := World.cells?_some hc
      exact ⟨cs', ⟨hcl, hat⟩, _, _, ht'⟩
    obtain ⟨Ls, hLl, hLs⟩ := list_of len hi'
    have hF : ∀ i, i < len → ((Ls.getD i []).length = s ∧ ∀ j, j < s → w.cell? ((a.add (i * s)).add j) = (Ls.getD i [])[j]?) ∧ ∃ n x, DataW.trod enc P w 0 (fun _ => true) true n e (Ls.getD i []) = some x := fun i hlt => by
      have := hLs i (Ls[i]'(by omega)) (List.getElem?_eq_getElem (by omega))
      rw [List.getD_eq_getElem?_getD, List.getElem?_eq_getElem (by omega)]
      exact this
    refine ⟨some a, len, _, fun i => Ls.getD i [], rfl, hl, hm, fun hlen => ?_, fun i hlt => ⟨(hF i hlt).1.1, (hF i hlt).2⟩⟩
    have h0 := (hF 0 hlen).1.2 0 hs0
    rw [Nat.zero_mul] at h0
    have hz : (a.add 0).add 0 = a := by simp [Addr.add]
    rw [hz, List.getElem?_eq_getElem (by rw [(hF 0 hlen).1.1]; exact hs0)] at h0
    have hsp : a.spot = none := by
      unfold World.cell? at h0
      split at h0
      · split at h0
        · cases h0
        · rename_i h; simpa using h
      · cases h0
    have hblk : a.block < w.heap.size := World.block_lt_of_cell? w a h0
    refine ⟨a.block, a.off, by cases a; simp_all, hblk, fun i hlt j hj => ?_⟩
    have := (hF i hlt).1.2 j hj
    rw [add_none a _ hsp, add_none _ _ rfl] at this
    exact this
set_option maxRecDepth 100000 in
theorem open_vecs {r : Reach} {b0 : Nat} {w : World} {v : Value} {d : DataW H} {p : List MemPlace} (hval : Value.okWide Try.prog w r b0 74 v) (h : DataW.Trod enc Try.prog w 0 (fun _ => true) true 74 v d p) :
    ∃ (A : Option Addr) (cap : Nat) (L : List Vec), v = .slice A L.length cap ∧ L.length ≤ cap ∧ cap ≤ maxLen ∧ VRows w w.heap.size A L ∧ ∀ u ∈ L, u.ok := by
  obtain ⟨A, len, cap, F, rfl, hl, hm, hc, hF⟩ := open_rows Try.underlying74 cells_vec (by omega) hval h
  obtain ⟨L, rfl, hL⟩ := list_of (P := fun i (u : Vec) => F i = (vecA u).toList ∧ u.ok) len fun i hi => by
    obtain ⟨_, n, x, hx⟩ := hF i hi
    exact trod_vec hx
  refine ⟨A, cap, L, rfl, hl, hm, fun hne => ?_, fun u hu => ?_⟩
  · obtain ⟨b, o, hA, hlt, hcell⟩ := hc (List.length_pos_iff.2 hne)
    refine ⟨b, o, hA, hlt, fun i u hi j hj => ?_⟩
    rw [hcell i (List.getElem?_eq_some_iff.1 hi).1 j hj, (hL i u hi).1, Array.getElem?_toList]
    exact vecA_get u j hj
  · obtain ⟨i, hi⟩ := List.getElem?_of_mem hu
    exact (hL i u hi).2
theorem cells_u8 : Try.prog.cellsOf 5 = 1 := by kernel_rfl
set_option maxRecDepth 100000 in
theorem open_bytes {r : Reach} {b0 : Nat} {w : World} {v : Value} {d : DataW H} {p : List MemPlace} (hval : Value.okWide Try.prog w r b0 23 v) (h : DataW.Trod enc Try.prog w 0 (fun _ => true) true 23 v d p) :
    ∃ (A : Option Addr) (cap : Nat) (l : List Int), v = .slice A l.length cap ∧ l.length ≤ cap ∧ cap ≤ maxLen ∧ BRows w w.heap.size A l ∧ ∀ x ∈ l, 0 ≤ x ∧ x ≤ 255 := by
  obtain ⟨A, len, cap, F, rfl, hl, hm, hc, hF⟩ := open_rows Try.underlying23 cells_u8 (by omega) hval h
  obtain ⟨L, rfl, hL⟩ := list_of (P := fun i (u : Int) => F i = [.int .u8 u] ∧ 0 ≤ u ∧ u ≤ 255) len fun i hi => by
    obtain ⟨_, n, x, hx⟩ := hF i hi
    obtain ⟨k, h1, _, h2⟩ := DataW.trod_int Try.underlying5 hx
    exact ⟨k, h1, wf_u8 h2⟩
  refine ⟨A, cap, L, rfl, hl, hm, fun hne => ?_, fun u hu => ?_⟩
  · obtain ⟨b, o, hA, hlt, hcell⟩ := hc (List.length_pos_iff.2 hne)
    refine ⟨b, o, hA, hlt, fun i u hi => ?_⟩
    have := hcell i (List.getElem?_eq_some_iff.1 hi).1 0 (by omega)
    rw [(hL i u hi).1, Nat.mul_one, Nat.add_zero] at this
    exact this
  · obtain ⟨i, hi⟩ := List.getElem?_of_mem hu
    exact (hL i u hi).2
end
end Go.Proofs.Ytgbbhkdaalnchaa
namespace Go.Proofs.Ytgbbhkdaalnchaa
set_option linter.unusedVariables false
set_option linter.unusedSimpArgs false
open Go.ChangeShapes Go.WideShapes Go.ChangeAt Go.RowKit

theorem cells_ev : Try.prog.cellsOf 32 = 14 := by kernel_rfl
theorem cells_i64 : Try.prog.cellsOf 3 = 1 := by kernel_rfl
theorem cells_i64' : Try.prog.cellsOf 2 = 1 := by kernel_rfl
section
variable {H : Type} {enc : TypeId × Value → H}
set_option maxRecDepth 100000 in
set_option maxHeartbeats 1000000 in
/-- The cells of an event that came in. -/
theorem trod_ev {w : World} {base : Nat} {sp : Nat → Bool} {hd : Bool} {fuel : Nat} {cs : List Value} {x : DataW H × List MemPlace}
    (h : DataW.trod enc Try.prog w base sp hd fuel 32 cs = some x) : ∃ e : Ev, cs = (evA e).toList ∧ e.ok := by
  obtain ⟨xs, m, _, _, hl, hlen, hf⟩ := DataW.trod_struct Try.underlying32 h
  rw [cells_ev] at hl
  match xs, hlen, cs, hl with
  | [y0, y1, y2, y3, y4, y5, y6, y7, y8], _, [c0, c1, c2, c3, c4, c5, c6, c7, c8, c9, c10, c11, c12, c13], _ =>
    have t0 : DataW.trod enc Try.prog w base sp hd m 3 [c0] = some y0 := by have := hf 0 _ rfl; simpa [cells_i64] using this
    obtain ⟨n0, e0, _, w0⟩ := DataW.trod_int Try.underlying3 t0
    have t1 : DataW.trod enc Try.prog w base sp hd m 28 [c1] = some y1 := by have := hf 1 _ rfl; simpa [cells_u64] using this
    obtain ⟨n1, e1, _, w1⟩ := DataW.trod_int Try.underlying28 t1
    have t2 : DataW.trod enc Try.prog w base sp hd m 30 [c2, c3, c4, c5, c6, c7] = some y2 := by have := hf 2 _ rfl; simpa [cells_vec] using this
    obtain ⟨d, e2, w2⟩ := trod_vec t2
    have t3 : DataW.trod enc Try.prog w base sp hd m 5 [c8] = some y3 := by have := hf 3 _ rfl; simpa [cells_u8] using this
    obtain ⟨n3, e3, _, w3⟩ := DataW.trod_int Try.underlying5 t3
    have t4 : DataW.trod enc Try.prog w base sp hd m 28 [c9] = some y4 := by have := hf 4 _ rfl; simpa [cells_u64] using this
    obtain ⟨n4, e4, _, w4⟩ := DataW.trod_int Try.underlying28 t4
    have t5 : DataW.trod enc Try.prog w base sp hd m 3 [c10] = some y5 := by have := hf 5 _ rfl; simpa [cells_i64] using this
    obtain ⟨n5, e5, _, w5⟩ := DataW.trod_int Try.underlying3 t5
    have t6 : DataW.trod enc Try.prog w base sp hd m 2 [c11] = some y6 := by have := hf 6 _ rfl; simpa [cells_i64'] using this
    obtain ⟨n6, e6, _, w6⟩ := DataW.trod_int Try.underlying2 t6
    have t7 : DataW.trod enc Try.prog w base sp hd m 28 [c12] = some y7 := by have := hf 7 _ rfl; simpa [cells_u64] using this
    obtain ⟨n7, e7, _, w7⟩ := DataW.trod_int Try.underlying28 t7
    have t8 : DataW.trod enc Try.prog w base sp hd m 28 [c13] = some y8 := by have := hf 8 _ rfl; simpa [cells_u64] using this
    obtain ⟨n8, e8, _, w8⟩ := DataW.trod_int Try.underlying28 t8
    simp only [vecA_toList, List.cons.injEq, and_true] at e0 e1 e2 e3 e4 e5 e6 e7 e8
    obtain ⟨g2, g3, g4, g5, g6, g7⟩ := e2
    subst e0 e1 e3 e4 e5 e6 e7 e8 g2 g3 g4 g5 g6 g7
    exact ⟨⟨n0, n1, d, n3, n4, n5, n6, n7, n8⟩, rfl, wf_i64 w0, wf_u64 w1, w2, wf_u8 w3, wf_u64 w4, wf_i64 w5, wf_i64 w6, wf_u64 w7, wf_u64 w8⟩
set_option maxRecDepth 100000 in
theorem open_ev {r : Reach} {b0 base : Nat} {w : World} {sp : Nat → Bool} {hd : Bool} {v : Value} {d : DataW H} {p : List MemPlace} (hval : Value.okWide Try.prog w r b0 32 v) (h : DataW.Trod enc Try.prog w base sp hd 32 v d p) :
    ∃ a : Ev, v = .agg (evA a) ∧ a.ok := by
  simp only [Value.okWide, Try.underlying32] at hval
  obtain ⟨cs, rfl, _, _⟩ := hval
  obtain ⟨fuel, hf⟩ := h
  obtain ⟨a, ha, hok⟩ := trod_ev hf
  refine ⟨a, ?_, hok⟩
  have : cs = evA a := Array.toList_inj.1 (by simpa [Value.cells] using ha)
  rw [this]
set_option maxRecDepth 100000 in
theorem open_evs {r : Reach} {b0 : Nat} {w : World} {v : Value} {d : DataW H} {p : List MemPlace} (hval : Value.okWide Try.prog w r b0 49 v) (h : DataW.Trod enc Try.prog w 0 (fun _ => true) true 49 v d p) :
    ∃ (A : Option Addr) (cap : Nat) (L : List Ev), v = .slice A L.length cap ∧ L.length ≤ cap ∧ cap ≤ maxLen ∧ ERows w w.heap.size A L ∧ ∀ u ∈ L, u.ok := by
  obtain ⟨A, len, cap, F, rfl, hl, hm, hc, hF⟩ := open_rows Try.underlying49 cells_ev (by omega) hval h
  obtain ⟨L, rfl, hL⟩ := list_of (P := fun i (u : Ev) => F i = (evA u).toList ∧ u.ok) len fun i hi => by
    obtain ⟨_, n, x, hx⟩ := hF i hi
    exact trod_ev hx
  refine ⟨A, cap, L, rfl, hl, hm, ⟨ecells_length L, fun hne => ?_⟩, fun u hu => ?_⟩
  · obtain ⟨b, o, hA, hlt, hcell⟩ := hc hne
    refine ⟨b, o, hA, hlt, fun j u hu => ?_⟩
    have hj : j < L.length * 14 := by have := (List.getElem?_eq_some_iff.1 hu).1; rwa [ecells_length] at this
    obtain ⟨e, he⟩ : ∃ e, L[j / 14]? = some e := ⟨L[j / 14]'(by omega), List.getElem?_eq_getElem (by omega)⟩
    have h1 := hcell (j / 14) (by omega) (j % 14) (by omega)
    have h2 := ecells_get L (j / 14) e he (j % 14) (by omega)
    rw [show j / 14 * 14 + j % 14 = j from by omega, hu] at h2
    rw [show o + j / 14 * 14 + j % 14 = o + j from by omega, (hL _ e he).1, Array.getElem?_toList, ← h2] at h1
    exact h1
  · obtain ⟨i, hi⟩ := List.getElem?_of_mem hu
    exact (hL i u hi).2
end
end Go.Proofs.Ytgbbhkdaalnchaa
