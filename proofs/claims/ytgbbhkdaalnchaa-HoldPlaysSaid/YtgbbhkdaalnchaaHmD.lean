/-
  The walk of package hold: Next.
-/
import Derived.Test.YtgbbhkdaalnchaaHmC
import Derived.Deep.RegionLaw
import Derived.Deep.LoopGhost
namespace Go.Proofs.Ytgbbhkdaalnchaa
set_option linter.unusedVariables false
set_option linter.unusedSimpArgs false
open Go.RowKit Go
set_option maxRecDepth 100000

section
variable {w w' w'' : World} {g h m b r : Nat} {L L' left left' kept : List Ev}
/-- Blocks alone are followed, over a world of which nothing stays. -/
theorem Trk.free (w : World) : Trk { w with heap := #[] } w [] := ⟨⟨rfl, rfl, rfl, Nat.zero_le _, fun k hk => absurd hk (Nat.not_lt_zero _)⟩, fun _ _ _ h => by cases h⟩
theorem Trk.fr {w0 : World} {bs : List (Nat × TypeId × Array Value)} (T : Trk w0 w bs) (f : Fr w w' g none) (hB : w0.heap.size ≤ g) (hN : Nes g bs) : Trk w0 w' bs :=
  ⟨f.below T.below hB (fun _ h => by cases h), fun g' t cs hm => f.blk (T.blk g' t cs hm) (hN.out g' t cs hm) (by simp)⟩
theorem Fr.new {rr : Option Nat} (f : Fr w w' h rr) (k : Fr w' w'' g none) (hg : w.heap.size ≤ g) : Fr w w'' h rr :=
  ⟨k.os.trans f.os, k.tape.trans f.tape, k.output.trans f.output, Nat.le_trans f.size k.size, fun i hi h1 h2 => (k.block i (Nat.lt_of_lt_of_le hi f.size) (by omega) (by simp)).trans (f.block i hi h1 h2)⟩
section
variable {ops : Array Oper} {rest : List Oper} {o : Oper} {a : Act} {Q : Exit → Act → World → Prop}
theorem wpList_range_h (hg : o.guard = none) (mm : Operand) (hop : o.op = Op.range 88 mm) (hm : a.eval mm = .map (some b)) (H : HMap w b L)
    (hK : ∀ w', HRange w' b w.heap.size L [] → Below w.heap.size w w' → w'.heap.size = w.heap.size + 1 → wpList Try.prog ops Q rest (a.put o.dst (.pointer (some ⟨w.heap.size, 0, none⟩))) w') : wpList Try.prog ops Q (o :: rest) a w := by
  refine wpList_plain hg fun K' hK' => ?_
  obtain ⟨w', hrun, r1, r2, r3⟩ := H.range
  unfold Oper.wp
  simp [execOp, hop, hm, hrun, Result.andThen]
  exact hK' _ _ (hK w' r1 r2 r3)
theorem wpList_next_h (hg : o.guard = none) (it : Operand) (hop : o.op = Op.next it false) (hit : a.eval it = .pointer (some ⟨r, 0, none⟩)) (H : HRange w b r left kept)
    (hDone : left = [] → wpList Try.prog ops Q rest (a.put o.dst (.tuple #[.bool false])) w)
    (hMore : ∀ e left' w', left.Perm (e :: left') → HRange w' b r left' (e :: kept) → Fr w w' r none → (Instr.entry (.pointer (some ⟨r, 0, none⟩))).run Try.prog w' = .ok (.tuple #[.agg #[.int .i64 e.o, .int .u64 e.s], .agg (evA e)]) w' →
      wpList Try.prog ops Q rest (a.put o.dst (.tuple #[.bool true, .agg #[.int .i64 e.o, .int .u64 e.s], .agg (evA e)])) w') : wpList Try.prog ops Q (o :: rest) a w := by
  refine wpList_plain hg fun K' hK' => ?_
  unfold Oper.wp
  rcases H.next o.type with ⟨h0, hrun⟩ | ⟨e, left', w', hp, hrun, H', f, hen⟩
  · simp [execOp, hop, hit, hrun, Result.andThen]
    exact hK' _ _ (hDone h0)
  · simp [execOp, hop, hit, hrun, Result.andThen]
    exact hK' _ _ (hMore e left' w' hp H' f hen)
end
theorem step_delete {P : Program} {ops : Array Oper} {o : Oper} {a : Act} {w : World} {K : Act → World → Prop} {Q : Exit → Act → World → Prop} {E : Prop} (hg : o.guard = none) (mm x : Operand) (t k : TypeId)
    (hop : o.op = Op.call { callee := Callee.builtin Builtin.delete, args := #[mm, x], argTypes := #[t, k] }) (key : Value) (hm : a.eval mm = .map (some b)) (hx : a.eval x = key) (w' : World) (hrun : ∀ ty, (Builtin.delete_ #[t, k] ty #[.map (some b), key]).run P w = .ok (.tuple #[]) w')
    (hK : K (a.put o.dst (.tuple #[])) w') : if Region.wanted o (yielded ops a.tmps) = true then Oper.wp P o a w K Q else E := by
  have hw : Region.wanted o (yielded ops a.tmps) = true := by simp [Region.wanted, hg]
  rw [if_pos hw]
  unfold Oper.wp
  simp [execOp, hop, resolve, invoke, builtin, hm, hx, hrun, Result.andThen]
  exact hK
theorem HRange.fr {g : Nat} {rr : Option Nat} (h : HRange w b r left kept) (f : Fr w w' g rr) (h1 : b ≠ g) (h2 : some b ≠ rr) (h3 : r ≠ g) (h4 : some r ≠ rr) : HRange w' b r left kept :=
  h.same (f.block b h.map.lt h1 h2) (f.block r h.lt h3 h4)
/-- What is left of the late ones, as they are struck. -/
def Sweep (v : Vec) (L left kept : List Ev) : Prop := (L.filter fun e => !lateB v e).Perm ((left.filter fun e => !lateB v e) ++ kept)
theorem Sweep.start (v : Vec) (L : List Ev) : Sweep v L L [] := by unfold Sweep; rw [List.append_nil]
theorem Sweep.late {v : Vec} {e : Ev} (h : Sweep v L left kept) (p : left.Perm (e :: left')) (hl : lateB v e = true) : Sweep v L left' kept := by
  refine h.trans (List.Perm.append_right _ ?_)
  have := p.filter (fun e => !lateB v e)
  rwa [List.filter_cons, hl, Bool.not_true, if_neg (by simp)] at this
theorem Sweep.keep {v : Vec} {e : Ev} (h : Sweep v L left kept) (p : left.Perm (e :: left')) (hl : lateB v e = false) : Sweep v L left' (e :: kept) := by
  have := p.filter (fun e => !lateB v e)
  rw [List.filter_cons, hl, Bool.not_false, if_pos rfl] at this
  exact h.trans ((List.Perm.append_right _ this).trans List.perm_middle.symm)
theorem Sweep.done {v : Vec} (h : Sweep v L [] kept) : (L.filter fun e => !lateB v e).Perm kept := by simpa [Sweep] using h
end
/-- The first loop's rounds. -/
structure SwA (wf w wr : World) (bs : List (Nat × TypeId × Array Value)) (h m r : Nat) (v : Vec) (L left kept : List Ev) : Prop where
  rg : HRange wr m r left kept
  sw : Sweep v L left kept
  sub : ∀ e ∈ left ++ kept, e ∈ L
  T : Trk wf wr bs
  blk : Blk wr h 90 #[.map (some m)]
  fr : Fr w wr m none
/-- The second loop's rounds. -/
structure SwB (wf w wr : World) (bs : List (Nat × TypeId × Array Value)) (h m : Nat) (M : List Ev) : Prop where
  H : HO wr h m M
  T : Trk wf wr bs
  fr : Fr w wr m none
/-- Among what waits, the one of region k + 1 whose time has come. -/
def pickAt (v : Vec) (L : List Ev) (k : Nat) : Option Ev := (lookE L ((k : Int) + 1) (v.get k + 1)).filter (readyB v)
/-- The first whose time has come, by regions. -/
def pickE (v : Vec) (L : List Ev) : Option Ev := (List.range 6).findSome? (pickAt v L)
/-- An event stored whole. -/
def setEvW (w : World) (g : Nat) (R : Ev) : World := ((((((((((((((w.setCell ⟨g, 0, none⟩ (.int .i64 R.o)).setCell ⟨g, 1, none⟩ (.int .u64 R.s)).setCell ⟨g, 2, none⟩ (.int .u64 R.d.v0)).setCell ⟨g, 3, none⟩ (.int .u64 R.d.v1)).setCell ⟨g, 4, none⟩ (.int .u64 R.d.v2)).setCell ⟨g, 5, none⟩ (.int .u64 R.d.v3)).setCell ⟨g, 6, none⟩ (.int .u64 R.d.v4)).setCell ⟨g, 7, none⟩ (.int .u64 R.d.v5)).setCell ⟨g, 8, none⟩ (.int .u8 R.k)).setCell ⟨g, 9, none⟩ (.int .u64 R.n)).setCell ⟨g, 10, none⟩ (.int .i64 R.t)).setCell ⟨g, 11, none⟩ (.int .i64 R.a)).setCell ⟨g, 12, none⟩ (.int .u64 R.r)).setCell ⟨g, 13, none⟩ (.int .u64 R.f))
theorem setEvW_fr (w : World) (g : Nat) (R : Ev) : Fr w (setEvW w g R) g none := ((((((((((((((Fr.of_set ⟨g, 0, none⟩ rfl _).set ⟨g, 1, none⟩ rfl _).set ⟨g, 2, none⟩ rfl _).set ⟨g, 3, none⟩ rfl _).set ⟨g, 4, none⟩ rfl _).set ⟨g, 5, none⟩ rfl _).set ⟨g, 6, none⟩ rfl _).set ⟨g, 7, none⟩ rfl _).set ⟨g, 8, none⟩ rfl _).set ⟨g, 9, none⟩ rfl _).set ⟨g, 10, none⟩ rfl _).set ⟨g, 11, none⟩ rfl _).set ⟨g, 12, none⟩ rfl _).set ⟨g, 13, none⟩ rfl _)
theorem results_hold {fn : Func} {s1 s2 : Nat} (h : fn.results = #[.cell s1 32, .tmp s2]) (tmps : Array Value) (g : Nat) (x : Ev) (b : Bool) (w : World) (ht : tmps.getD s1 undef = .pointer (some ⟨g, 0, none⟩)) (ht2 : tmps.getD s2 undef = .bool b)
    (hb : Blk w g 32 (evA x)) : (results fn tmps).run Try.prog w = .ok (.tuple #[.agg (evA x), .bool b]) w := by
  obtain ⟨q, -⟩ := hb.rules
  have h1 : tmps[s1]?.getD undef = .pointer (some ⟨g, 0, none⟩) := by rw [← ht]; simp
  have h2 : tmps[s2]?.getD undef = .bool b := by rw [← ht2]; simp
  simp [results, h, h1, h2, go_sem, q]
/-- What a hold holds and answers, once those are gone that are late. -/
def hnextR (v : Vec) (L : List Ev) : Option Ev := pickE v (L.filter fun e => !lateB v e)
def hnextV (r : Option Ev) : Value := .tuple #[.agg (evA (r.getD Ev.zero)), .bool r.isSome]
/-- What is held then. -/
def NextTo (v : Vec) (L L' : List Ev) : Prop := match hnextR v L with
  | none => (L.filter fun e => !lateB v e).Perm L'
  | some e => (L.filter fun e => !lateB v e).Perm (e :: L')
def NextPost (w w' : World) (h m : Nat) (v : Vec) (L : List Ev) : Prop := ∃ L', HO w' h m L' ∧ Fr w w' m none ∧ NextTo v L L'
theorem findSome_congr {α β : Type} {f g : α → Option β} : ∀ {l : List α}, (∀ x ∈ l, f x = g x) → l.findSome? f = l.findSome? g
  | [], _ => rfl
  | x :: l, h => by
    rw [List.findSome?_cons, List.findSome?_cons, h x (by simp), findSome_congr (fun y hy => h y (by simp [hy]))]
theorem pickE_perm (v : Vec) {L M : List Ev} (p : L.Perm M) (h : NdN L) : pickE v M = pickE v L :=
  findSome_congr fun k _ => by unfold pickAt; rw [lookE_perm h p]
theorem pickE_none {v : Vec} {M : List Ev} (h : ∀ j, j < 6 → pickAt v M j = none) : pickE v M = none :=
  List.findSome?_eq_none_iff.2 fun j hj => h j (List.mem_range.1 hj)
theorem findSome_first {β : Type} {f : Nat → Option β} {y : β} : ∀ (n k : Nat), k < n → (∀ j, j < k → f j = none) → f k = some y → (List.range n).findSome? f = some y
  | 0, _, h, _, _ => by omega
  | n + 1, k, h, hn, hy => by
    rw [List.range_succ, List.findSome?_append]
    by_cases hk : k < n
    · rw [findSome_first n k hk hn hy]; rfl
    · obtain rfl : k = n := by omega
      rw [List.findSome?_eq_none_iff.2 fun j hj => hn j (List.mem_range.1 hj)]
      simp [hy]
theorem pickE_some {v : Vec} {M : List Ev} {k : Nat} {e : Ev} (hk : k < 6) (h : ∀ j, j < k → pickAt v M j = none) (he : pickAt v M k = some e) : pickE v M = some e := findSome_first 6 k hk h he
section
variable {w : World} {h m : Nat} {L : List Ev}
set_option maxHeartbeats 1000000 in
theorem hnext (H : HO w h m L) (v : Vec) (hv : ∀ k, k < 6 → 0 ≤ v.get k ∧ v.get k ≤ 1000000) (okL : ∀ e ∈ L, e.ok) :
    Calls Try.prog 16 #[.pointer (some ⟨h, 0, none⟩), .agg (vecA v)] w fun r w' => r = .returned (hnextV (hnextR v L)) ∧ NextPost w w' h m v L := by
  have C1 := Lib.hid (fun (e : Ev) (he : e ∈ L) (b : Bool) (hb : lateB v e = b) (W : World) => olate' v e (okL e he) b hb W)
  have C2 := Lib.hid (fun (e : Ev) (he : e ∈ L) (b : Bool) (hb : readyB v e = b) (W : World) => oready' v e (okL e he) b hb W)
  have HV := Lib.hid hv
  have HOK := Lib.hid okL
  obtain ⟨q, f⟩ := H.blk.rules
  have lh := H.blk.lt
  clear hv okL
  go_enter Try.func16, Try.ntmps16
  have H1 := H.call (w' := (w.alloc (.cells (vecA v) 30)).alloc (.cells (evA Ev.zero) 32)) (((Below.refl _ _).alloc (Nat.le_refl _) _).alloc (by simp) _)
  have HM := Lib.hid H1.map
  go_wp2_with (first | (at_range; refine wpList_range_h rfl _ rfl rfl HM.out ?_; intro w0 hrg0 hb0 hs0))
  go_frame
  have T0 : Trk { w with heap := #[] } w0 [(w.heap.size + 1, 32, evA Ev.zero), (w.heap.size, 30, vecA v)] := (((Trk.free w).push (t := 30) (cs := vecA v) rfl).push (t := 32) (cs := evA Ev.zero) (g := w.heap.size + 1) (by simp)).call hb0
  have hsz : ((w.alloc (.cells (vecA v) 30)).alloc (.cells (evA Ev.zero) 32)).heap.size = w.heap.size + 2 := by simp
  have A0 : SwA { w with heap := #[] } w w0 [(w.heap.size + 1, 32, evA Ev.zero), (w.heap.size, 30, vecA v)] h m (w.heap.size + 2) v L L [] :=
    ⟨by rw [hsz] at hrg0; exact hrg0, Sweep.start v L, by simp, T0, (H1.call hb0).blk, Fr.of_below ((((Below.refl _ _).alloc (Nat.le_refl _) _).alloc (by simp) _).trans (hb0.mono (by simp; omega)))⟩
  rw [hsz]
  have lm := H.map.lt
  have HH := Lib.hid H
  clear H H1 HM hrg0 hb0 hs0 T0 hsz q f
  go_loopg [21] L.length (fun g _ wr => ∃ left kept, left.length = g ∧ SwA { w with heap := #[] } w wr [(w.heap.size + 1, 32, evA Ev.zero), (w.heap.size, 30, vecA v)] h m (w.heap.size + 2) v L left kept)
  case atStart => exact ⟨L, [], rfl, A0⟩
  case round =>
    obtain ⟨left, kept, hg, A⟩ := hrel
    clear A0
    go_wp2_with (first | (at_next; refine wpList_next_h rfl _ rfl rfl A.rg ?_ ?_))
    · intro hl0
      obtain rfl := hl0
      clear hg
      have hM := A.rg.map
      rw [List.nil_append] at hM
      have B0 : SwB { w with heap := #[] } w wr [(w.heap.size + 1, 32, evA Ev.zero), (w.heap.size, 30, vecA v)] h m kept := ⟨⟨A.blk, hM⟩, A.T, A.fr⟩
      have HSW := Lib.hid A.sw.done
      have HSUB := Lib.hid (fun e he => A.sub e (by simpa using he))
      have HPK := Lib.hid (pickE_perm v A.sw.done.symm hM.ndn)
      obtain ⟨-, -, q0, -, -⟩ := A.T.rules
      have l0 := (A.T.drop).lt
      clear A hM HH
      go_upto_region 8 with fail
      go_wp2_with fail
      clear q0 l0
      go_loopg [35] 6 (fun g i w2 => ∃ k : Nat, k + g = 6 ∧ i = .int .i64 k ∧ Hid (∀ j, j < k → pickAt v kept j = none) ∧ SwB { w with heap := #[] } w w2 [(w.heap.size + 1, 32, evA Ev.zero), (w.heap.size, 30, vecA v)] h m kept)
      case atStart => exact ⟨0, by omega, rfl, Lib.hid (fun j hj => absurd hj (by omega)), B0⟩
      case round =>
        obtain ⟨k, hkg, rfl, HK, S⟩ := hrel
        clear B0
        have HL0 := Lib.hid (hkg)
        obtain ⟨q1, f1, q0, -, -⟩ := S.T.rules
        obtain ⟨l1, l0, -⟩ := S.T.lts
        have lh2 := S.H.blk.lt
        by_cases hlt : k < 6
        · have hvk := HV.out k hlt
          have hix := run_index_vec v k hlt
          have hk : NmOk ((k : Int) + 1) (v.get k + 1) := ⟨by omega, by omega, by omega⟩
          have hdk : decide ((k : Int) < 6) = true := by simp; omega
          clear hkg
          go_upto_region 12 with fail
          have T2 := S.T.push (t := 92) (cs := #[.int .i64 ((k : Int) + 1), .int .u64 (v.get k + 1)]) rfl
          have hb1 : Below wr.heap.size wr (wr.alloc (.cells #[.int .i64 ((k : Int) + 1), .int .u64 (v.get k + 1)] 92)) := (Below.refl _ _).alloc (Nat.le_refl _) _
          have H2 := S.H.call hb1
          have F2 := S.fr.trans (Fr.of_below hb1)
          generalize wr.alloc _ = w2 at T2 H2 F2 hb1 ⊢
          have HS := Lib.hid S
          clear S q0 q1 f1 l0 l1 lh2 hix hvk hdk
          obtain ⟨q, f⟩ := H2.blk.rules
          obtain ⟨q2, -, q1, -, q0, -, -⟩ := T2.rules
          obtain ⟨l2, l1, l0, -⟩ := T2.lts
          have lh2 := H2.blk.lt
          have hl1 := (H2.map.same (w' := w2.drew) rfl).look hk
          have hl2 := fun cs t => ((H2.map.call (w' := w2.alloc (.cells cs t)) ((Below.refl w2.heap.size w2).alloc (Nat.le_refl _) _)).same (w' := (w2.alloc (.cells cs t)).drew) rfl).look hk
          obtain ⟨x, hx⟩ : ∃ x, lookE kept ((k : Int) + 1) (v.get k + 1) = x := ⟨_, rfl⟩
          have HX := Lib.hid hx
          have HHH := Lib.hid H2
          have HTT := Lib.hid T2
          have HFF := Lib.hid F2
          have HBB := Lib.hid hb1
          cases x with
          | none =>
            simp only [lookV, nmA, hx, Option.getD_none, Option.isSome_none] at hl1 hl2
            have HPA := Lib.hid (show pickAt v kept k = none by unfold pickAt; rw [hx]; rfl)
            clear H2 T2 F2 hb1 hx
            go_region
            clear hl1 hl2 q f q0 q1 q2 l0 l1 l2 lh2
            have hb3 := HBB.out.trans (((Below.refl w2.heap.size w2).alloc (Nat.le_refl _) (.cells (evA Ev.zero) 32)).drew.mono HBB.out.size)
            generalize (w2.alloc _).drew = w3 at hb3 ⊢
            go_wp2_with fail
            have hkg := HL0.out
            go_roundg (gk - 1)
            case measure => omega
            case rel => exact ⟨k + 1, by omega, by go_num, Lib.hid (fun j hj => if ej : j = k then ej ▸ HPA.out else HK.out j (by omega)), HS.out.H.call hb3, HS.out.T.call hb3, HS.out.fr.trans (Fr.of_below hb3)⟩
          | some e =>
            obtain ⟨he, ho1, ho2⟩ := lookE_some hx
            obtain ⟨rb, hrb⟩ : ∃ b, readyB v e = b := ⟨_, rfl⟩
            have CR := Lib.hid (C2.out e (HSUB.out e he) rb hrb)
            have HRB := Lib.hid hrb
            have HE := Lib.hid he
            simp only [lookV, nmA, hx, Option.getD_some, Option.isSome_some] at hl1 hl2
            have HOO := Lib.hid (And.intro ho1 ho2)
            clear H2 T2 F2 hb1 hx hrb ho1 ho2 he
            go_region
            clear hl1 hl2 q f q0 q1 q2 l0 l1 l2 lh2
            have hb3 := ((Below.refl w2.heap.size w2).alloc (Nat.le_refl _) (.cells (evA e) 32)).drew
            have T3 := (HTT.out.push (t := 32) (cs := evA e) rfl).drew
            have H3 := HHH.out.call hb3
            generalize (w2.alloc _).drew = w3 at hb3 T3 H3 ⊢
            obtain ⟨q3, -, q2, -, q1, -, q0, -, -⟩ := T3.rules
            obtain ⟨l3, l2, l1, l0, -⟩ := T3.lts
            go_wp2_with fail
            refine (CR.out _).mono ?_
            rintro rr w4 ⟨rfl, hb4⟩
            have T4 := T3.call hb4
            have H4 := H3.call hb4
            have hb4' := hb3.trans (hb4.mono hb3.size)
            have hb5 := HBB.out.trans (hb4'.mono HBB.out.size)
            clear q0 q1 q2 q3 l0 l1 l2 l3 T3 H3 hb3 hb4 CR
            rcases (show rb = false ∨ rb = true from by cases rb <;> simp) with rfl | rfl
            · have HPA := Lib.hid (show pickAt v kept k = none by
                obtain ⟨e1, e2⟩ := HOO.out
                have hf : lookE kept ((k : Int) + 1) (v.get k + 1) = some e := HX.out
                unfold pickAt; rw [hf]; simp [Option.filter, HRB.out])
              go_wp2_with fail
              have hkg := HL0.out
              go_roundg (gk - 1)
              case measure => omega
              case rel => exact ⟨k + 1, by omega, by go_num, Lib.hid (fun j hj => if ej : j = k then ej ▸ HPA.out else HK.out j (by omega)), HS.out.H.call hb5, HS.out.T.call hb5, HS.out.fr.trans (Fr.of_below hb5)⟩
            · have HPA := Lib.hid (show pickAt v kept k = some e by
                have hf : lookE kept ((k : Int) + 1) (v.get k + 1) = some e := HX.out
                unfold pickAt; rw [hf]; simp [Option.filter, HRB.out])
              go_upto_region 14 with fail
              obtain ⟨-, -, q2, -, -⟩ := T4.rules
              obtain ⟨qh, -⟩ := H4.blk.rules
              obtain ⟨w5, L', hdel, HM5, HP5, F5⟩ : ∃ w5 L', (∀ ty, (Builtin.delete_ #[88, 92] ty #[.map (some m), .agg #[.int .i64 ((k : Int) + 1), .int .u64 (v.get k + 1)]]).run Try.prog w4.drew = .ok (.tuple #[]) w5) ∧ HMap w5 m L' ∧ kept.Perm (e :: L') ∧ Fr w4 w5 m none := by
                obtain ⟨w5, L', hd, hp, hm5, f5⟩ := (H4.map.same (w' := w4.drew) rfl).drop HE.out 0
                refine ⟨w5, L', fun ty => ?_, hm5, hp, (Fr.of_below (Below.refl _ _).drew).trans f5⟩
                obtain ⟨e1, e2⟩ := HOO.out
                rw [e1, e2] at hd
                exact hd
              have HH5 := Lib.hid (H4.turn F5 HM5)
              have hw4 := HS.out.fr.size
              have hw2 := HBB.out.size
              have T5 := T4.fr F5 (Nat.zero_le _) ⟨by omega, by omega, by omega, by omega, trivial⟩
              have HFA := Lib.hid ((HS.out.fr.trans (Fr.of_below hb5)).trans F5)
              have HP5 := Lib.hid HP5
              clear T4 H4 HM5 F5 hb5 hb4' hw4 hw2
              go_region_law (with_reducible refine step_delete rfl _ _ _ _ rfl _ rfl rfl _ hdel ?_)
              clear hdel q2 qh
              all_goals
                obtain ⟨q3, f3, q2, f2, q1, f1, q0, f0, -⟩ := T5.rules
                go_wp2_with fail
                have T6 := (T5.perm (cs := [(w.heap.size + 1, 32, evA Ev.zero)]) (by intro y hy; simp at hy ⊢; simp [hy])).setEv (by exact Nat.zero_le _) trivial e
                have F6 : Fr w5 (setEvW w5 (w.heap.size + 1) e) (w.heap.size + 1) none := setEvW_fr _ _ _
                have hR : hnextR v L = some e := by unfold hnextR; rw [HPK.out]; exact pickE_some hlt HK.out HPA.out
                refine bodyPost_ret (v := .tuple #[.agg (evA e), .bool true]) (results_hold (s1 := 4) (s2 := 5) (by kernel_rfl) _ (w.heap.size + 1) e true _ rfl rfl (T6.blk _ _ _ List.mem_cons_self)) rfl ⟨by rw [hR]; rfl, ?_⟩
                exact ⟨L', HH5.out.fr F6 (by omega) (by simp) (by omega) (by simp), HFA.out.new F6 (by omega), by unfold NextTo; rw [hR]; exact HSW.out.trans HP5.out⟩
        · obtain rfl : k = 6 := by omega
          have HPN := Lib.hid (pickE_none HK.out)
          have hd6 : decide ((6 : Int) < 6) = false := rfl
          clear HL0 hkg q0 l0 HK
          go_wp2_with fail
          have T6 := S.T.setEv (by exact Nat.zero_le _) ⟨by omega, trivial⟩ Ev.zero
          have F6 : Fr wr (setEvW wr (w.heap.size + 1) Ev.zero) (w.heap.size + 1) none := setEvW_fr _ _ _
          have hR : hnextR v L = none := by unfold hnextR; rw [HPK.out]; exact HPN.out
          refine bodyPost_ret (v := .tuple #[.agg (evA Ev.zero), .bool false]) (results_hold (s1 := 4) (s2 := 5) (by kernel_rfl) _ (w.heap.size + 1) Ev.zero false _ rfl rfl (T6.blk _ _ _ List.mem_cons_self)) rfl ⟨by rw [hR]; rfl, ?_⟩
          exact ⟨kept, S.H.fr F6 (by omega) (by simp) (by omega) (by simp), S.fr.new F6 (by omega), by unfold NextTo; rw [hR]; exact HSW.out⟩
    · intro e left' w1 hp hrg1 hf1 hen
      have he : e ∈ L := A.sub e (List.mem_append_left _ (hp.mem_iff.2 (by simp)))
      have T1 := A.T.fr hf1 (Nat.zero_le _) ⟨by omega, by omega, trivial⟩
      have B1 := hf1.blk A.blk (by omega) (by simp)
      have F1 := A.fr.new hf1 (by omega)
      have hlen : left.length = left'.length + 1 := by simpa using hp.length_eq
      obtain ⟨lb, hlb⟩ : ∃ b, lateB v e = b := ⟨_, rfl⟩
      have CL := Lib.hid (C1.out e he lb hlb)
      have HSW := Lib.hid A.sw
      have HLB := Lib.hid hlb
      have HSUB := Lib.hid A.sub
      have HEQ := Lib.hid (And.intro hg hlen)
      have HP := Lib.hid hp
      have l1 := T1.lt
      have hw1 := F1.size
      have HNE := Lib.hid (HO.mk A.blk A.rg.map).ne
      clear A hlb hg hlen hp he HH
      rcases (show lb = false ∨ lb = true from by cases lb <;> simp) with rfl | rfl
      · go_upto_region 6 with fail
        have T2 := (T1.push (t := 92) (cs := #[.int .i64 e.o, .int .u64 e.s]) rfl).push (t := 32) (cs := evA e) (g := w1.heap.size + 1) (by simp)
        have hb1 : Below w1.heap.size w1 ((w1.alloc (.cells #[.int .i64 e.o, .int .u64 e.s] 92)).alloc (.cells (evA e) 32)) := ((Below.refl _ _).alloc (Nat.le_refl _) _).alloc (by simp) _
        generalize (w1.alloc _).alloc _ = w2 at T2 hb1 ⊢
        obtain ⟨q3, -, q2, -, q1, -, q0, -, -⟩ := T2.rules
        go_wp2_with fail
        refine (CL.out _).mono ?_
        rintro rr w3 ⟨rfl, hb3⟩
        have hb13 := hb1.trans (hb3.mono hb1.size)
        have T3 := T1.call hb13
        have R3 := hrg1.call hb13
        have B3 := B1.below hb13 B1.lt
        have F3 := F1.trans (Fr.of_below hb13)
        clear q0 q1 q2 q3 T2 hb1 hb3 CL
        go_wp2_with fail
        obtain ⟨hg, hlen⟩ := HEQ.out
        go_roundg left'.length
        case measure => omega
        case rel => exact ⟨left', e :: kept, rfl, R3, HSW.out.keep HP.out HLB.out, fun x hx => HSUB.out x (by
          simp only [List.mem_append, List.mem_cons] at hx ⊢
          rcases hx with hx | rfl | hx
          · exact .inl (HP.out.mem_iff.2 (by simp [hx]))
          · exact .inl (HP.out.mem_iff.2 (by simp))
          · exact .inr hx), T3, B3, F3⟩
      · go_upto_region 6 with fail
        have T2 := (T1.push (t := 92) (cs := #[.int .i64 e.o, .int .u64 e.s]) rfl).push (t := 32) (cs := evA e) (g := w1.heap.size + 1) (by simp)
        have hb1 : Below w1.heap.size w1 ((w1.alloc (.cells #[.int .i64 e.o, .int .u64 e.s] 92)).alloc (.cells (evA e) 32)) := ((Below.refl _ _).alloc (Nat.le_refl _) _).alloc (by simp) _
        generalize (w1.alloc _).alloc _ = w2 at T2 hb1 ⊢
        obtain ⟨q3, -, q2, -, q1, -, q0, -, -⟩ := T2.rules
        go_wp2_with fail
        refine (CL.out _).mono ?_
        rintro rr w3 ⟨rfl, hb3⟩
        have hb13 := hb1.trans (hb3.mono hb1.size)
        have T3 := T2.call hb3
        have R3 := hrg1.call hb13
        have B3 := B1.below hb13 B1.lt
        have F3 := F1.trans (Fr.of_below hb13)
        clear q0 q1 q2 q3 T2 hb1 hb3 CL
        go_upto_region 7 with fail
        obtain ⟨-, -, q2, -, -⟩ := T3.rules
        obtain ⟨qh, -⟩ := B3.rules
        obtain ⟨w4, hdel, R4, F4⟩ : ∃ w4, (∀ ty, (Builtin.delete_ #[88, 92] ty #[.map (some m), .agg #[.int .i64 e.o, .int .u64 e.s]]).run Try.prog w3.drew = .ok (.tuple #[]) w4) ∧ HRange w4 m (w.heap.size + 2) left' kept ∧ Fr w3 w4 m none := by
          obtain ⟨w4, hd, r4, f4⟩ := (R3.same (w' := w3.drew) rfl rfl).drop 0
          exact ⟨w4, fun ty => hd, r4, (Fr.of_below (Below.refl _ _).drew).trans f4⟩
        have HT := Lib.hid (T3.fr F4 (Nat.zero_le _) ⟨by omega, by omega, by omega, by omega, trivial⟩)
        have HB := Lib.hid (F4.blk B3 HNE.out (by simp))
        have HF := Lib.hid (F3.trans F4)
        have HR := Lib.hid R4
        clear T3 B3 F3 R3 R4 F4 hb13
        go_region_law (with_reducible refine step_delete rfl _ _ _ _ rfl _ rfl rfl _ hdel ?_)
        all_goals
          go_wp2_with fail
          obtain ⟨hg, hlen⟩ := HEQ.out
          go_roundg left'.length
          case measure => omega
          case rel => exact ⟨left', kept, rfl, HR.out, HSW.out.late HP.out HLB.out, fun x hx => HSUB.out x (by
            simp only [List.mem_append] at hx ⊢
            rcases hx with hx | hx
            · exact .inl (HP.out.mem_iff.2 (by simp [hx]))
            · exact .inr hx), HT.out.drop.drop, HB.out, HF.out⟩
end
end Go.Proofs.Ytgbbhkdaalnchaa
