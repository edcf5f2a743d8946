/-
  What every law's row needs: arguments opened, the row's end out of 'it returns true and nothing that was there has turned'.
-/
import Derived.Test.YtlbdlmgcblmeeaaRows
import Derived.Test.YtlbdlmgcblmeeaaBase
import Derived.ProofKit
import Derived.OpenShut
namespace Go.Proofs.Ytlbdlmgcblmeeaa
open Go.ChangeShapes Go.WideShapes Go.ChangeAt Go.RowKit

theorem own_Try : ownKnob Try.prog.godebug = none := by kernel_rfl
theorem laidOut_Try : laidOutB Try.prog = true := by kernel_rfl
theorem cells_vec : Try.prog.cellsOf 25 = 6 := by kernel_rfl
theorem cells_u64 : Try.prog.cellsOf 23 = 1 := by kernel_rfl

section
variable {H : Type} {enc : TypeId × Value → H}

/-- Arguments that nothing has written read as before. -/
theorem trodAll_stays {P : Program} (hl : laidOutB P = true) {W W' : World} {sp : Nat → Bool} (hb : Below W.heap.size W W') : ∀ (ts : List TypeId) (vs : List Value) (ds : List (DataW H)) (ps : List MemPlace),
    ts.all (fun t => P.readableRec t && decide (t < P.types.size)) = true → DataW.TrodAll enc P W 0 (fun _ => true) true ts vs ds ps → (∀ p ∈ ps, p.block < W.heap.size) → (∀ p ∈ ps, sp p.block = true) →
    DataW.TrodAll enc P W' 0 sp true ts vs ds ps
  | [], vs, ds, ps, _, h, _, _ => by
    cases vs <;> cases ds <;> simp_all [DataW.TrodAll]
  | t :: ts, vs, ds, ps, hts, h, hlt, hsp => by
    obtain ⟨v, vs', d, ds', p, q, rfl, rfl, rfl, h1, h2⟩ := trodAll_cons h
    simp only [List.all_cons, Bool.and_eq_true, decide_eq_true_eq] at hts
    exact ⟨p, q, WideElems.Trod_stays hl hts.1.1 hts.1.2 h1 (fun x hx => hb.same (hlt x (List.mem_append_left _ hx))) (fun x hx => hsp x (List.mem_append_left _ hx)),
      trodAll_stays hl hb ts vs' ds' q hts.2 h2 (fun x hx => hlt x (List.mem_append_right _ hx)) (fun x hx => hsp x (List.mem_append_right _ hx)), rfl⟩

/-- THE ROW's END. -/
theorem law_post {f : Func} {s : ChangeSpec} {W W' : World} {args : Array Value} {ds gs : List (DataW H)} {before : List MemPlace}
    (hW : DataW.Whole enc Try.prog f.params.toList s.vars false W args.toList ds gs before) (hb : Below W.heap.size W W') (hv : s.vars = [])
    (hts : f.params.toList.all (fun t => Try.prog.readableRec t && decide (t < Try.prog.types.size)) = true) (hrt : f.resultTypes = #[4])
    (h1 : (s.fn H (ds ++ gs)).results = [.lit (.bool true)]) (h2 : (s.fn H (ds ++ gs)).args = ds) (h3 : (s.fn H (ds ++ gs)).vars = []) :
    s.post enc Try.prog f false true false false W args (.bool true) W' := by
  have hlt : ∀ p ∈ before, p.block < W.heap.size := fun p hp => hW.lt p hp
  have hW2 := hW
  obtain ⟨p, q, hA, hV, rfl, _, _⟩ := hW2
  rw [hv] at hV
  obtain ⟨hg, hq⟩ := trodVars_none hV
  refine ⟨ds, gs, p ++ q, [], p, q, hW, ?_, ?_, ?_, World.keptBut_mono (fun x hx => ⟨hx, ?_⟩) (hb.frame (· ∈ p ++ q)), fun h => by cases h⟩
  · rw [h1, hrt]
    exact trodAll_mk1 (shut_bool Try.underlying4 true)
  · rw [h2]
    exact trodAll_stays laidOut_Try hb _ _ _ _ hts hA (fun x hx => hlt x (List.mem_append_left _ hx)) (fun x hx => by simpa using hlt x (List.mem_append_left _ hx))
  · rw [h3, hv, hq]
    rfl
  · exact Or.inr (by simpa using hx)

theorem wf_u64 {n : Int} (h : (Lit.int .u64 n).wf = true) : 0 ≤ n ∧ n ≤ 18446744073709551615 := by
  simpa [Lit.wf, IntKind.min, IntKind.max, IntKind.signed, IntKind.bits] using h
theorem wf_i64 {n : Int} (h : (Lit.int .i64 n).wf = true) : -9223372036854775808 ≤ n ∧ n ≤ 9223372036854775807 := by
  simpa [Lit.wf, IntKind.min, IntKind.max, IntKind.signed, IntKind.bits] using h
theorem wf_u8 {n : Int} (h : (Lit.int .u8 n).wf = true) : 0 ≤ n ∧ n ≤ 255 := by
  simpa [Lit.wf, IntKind.min, IntKind.max, IntKind.signed, IntKind.bits] using h

set_option maxRecDepth 100000 in
/-- The cells of a vector that came in. -/
theorem trod_vec {w : World} {base : Nat} {sp : Nat → Bool} {hd : Bool} {fuel : Nat} {cs : List Value} {x : DataW H × List MemPlace}
    (h : DataW.trod enc Try.prog w base sp hd fuel 25 cs = some x) : ∃ a : Vec, cs = (vecA a).toList ∧ a.ok := by
  obtain ⟨xs, m, _, _, hl, hxl, hi⟩ := DataW.trod_array Try.underlying25 h
  rw [cells_vec] at hl
  have hcell : ∀ i, i < 6 → ∃ n : Int, cs[i]? = some (.int .u64 n) ∧ 0 ≤ n ∧ n ≤ 18446744073709551615 := fun i hi6 => by
    have h1 := hi i hi6
    rw [cells_u64, Nat.mul_one, List.getElem?_eq_getElem (by omega)] at h1
    obtain ⟨n, hn, _, hw⟩ := DataW.trod_int Try.underlying23 h1
    refine ⟨n, ?_, wf_u64 hw⟩
    have hd : (cs.drop i).take 1 = [cs[i]'(by omega)] := by rw [List.drop_eq_getElem_cons (by omega)]; rfl
    rw [hd] at hn
    rw [List.getElem?_eq_getElem (by omega)]
    simpa using hn
  obtain ⟨n0, e0, w0⟩ := hcell 0 (by omega)
  obtain ⟨n1, e1, w1⟩ := hcell 1 (by omega)
  obtain ⟨n2, e2, w2⟩ := hcell 2 (by omega)
  obtain ⟨n3, e3, w3⟩ := hcell 3 (by omega)
  obtain ⟨n4, e4, w4⟩ := hcell 4 (by omega)
  obtain ⟨n5, e5, w5⟩ := hcell 5 (by omega)
  refine ⟨⟨n0, n1, n2, n3, n4, n5⟩, ?_, Vec.six (P := fun k => 0 ≤ (⟨n0, n1, n2, n3, n4, n5⟩ : Vec).get k ∧ (⟨n0, n1, n2, n3, n4, n5⟩ : Vec).get k ≤ 18446744073709551615) w0 w1 w2 w3 w4 w5⟩
  clear hi hxl h hcell
  match cs, hl, e0, e1, e2, e3, e4, e5 with
  | [c0, c1, c2, c3, c4, c5], _, e0, e1, e2, e3, e4, e5 =>
    simp at e0 e1 e2 e3 e4 e5
    subst e0 e1 e2 e3 e4 e5
    rfl
set_option maxRecDepth 100000 in
theorem open_vec {r : Reach} {b0 base : Nat} {w : World} {sp : Nat → Bool} {hd : Bool} {v : Value} {d : DataW H} {p : List MemPlace} (hval : Value.okWide Try.prog w r b0 25 v) (h : DataW.Trod enc Try.prog w base sp hd 25 v d p) :
    ∃ a : Vec, v = .agg (vecA a) ∧ a.ok := by
  simp only [Value.okWide, Try.underlying25] at hval
  obtain ⟨cs, rfl, _, _⟩ := hval
  obtain ⟨fuel, hf⟩ := h
  obtain ⟨a, ha, hok⟩ := trod_vec hf
  refine ⟨a, ?_, hok⟩
  have : cs = vecA a := Array.toList_inj.1 (by simpa [Value.cells] using ha)
  rw [this]
end
end Go.Proofs.Ytlbdlmgcblmeeaa
