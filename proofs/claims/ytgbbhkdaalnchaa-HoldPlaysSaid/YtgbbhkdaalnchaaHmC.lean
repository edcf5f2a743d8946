/-
  The walk of package hold: Put.
-/
import Derived.Test.YtgbbhkdaalnchaaGU
import Derived.RegionTactic
namespace Go.Proofs.Ytgbbhkdaalnchaa
set_option linter.unusedVariables false
set_option linter.unusedSimpArgs false
open Go.RowKit Go
set_option maxRecDepth 100000

/-- What a hold answers to an event; what it holds then. -/
def hputR (v : Vec) (L : List Ev) (e : Ev) : Int := if emayB e then (if lateB v e || (lookE L e.o e.s).isSome then 14 else if 64 ≤ L.length then 7 else 0) else 1
def hputL (v : Vec) (L : List Ev) (e : Ev) : List Ev := if hputR v L e = 0 then L ++ [e] else L
section
variable {w w' : World} {h m : Nat} {L L' : List Ev}
theorem hput_not (H : HO w h m L) (v : Vec) (e : Ev) (ho : e.ok) (hm : emayB e = false) :
    Calls Try.prog 14 #[.pointer (some ⟨h, 0, none⟩), .agg (vecA v), .agg (evA e)] w fun r w' => r = .returned (.int .i64 1) ∧ Below w.heap.size w w' := by
  have C1 := Lib.hid (emay' e ho false hm)
  obtain ⟨x, hx⟩ : ∃ x, (lookE L e.o e.s).getD Ev.zero = x := ⟨_, rfl⟩
  obtain ⟨y, hy⟩ : ∃ y, (lookE L e.o e.s).isSome = y := ⟨_, rfl⟩
  have hk : NmOk e.o e.s := ⟨ho.o, ho.s⟩
  go_enter Try.func14, Try.ntmps14
  go_upto_region 4 with fail
  have T0 : Trk w _ [(w.heap.size + 1 + 1, 92, #[.int .i64 e.o, .int .u64 e.s]), (w.heap.size + 1, 32, evA e), (w.heap.size, 30, vecA v)] := (((Trk.nil w).push (t := 30) (cs := vecA v) rfl).push (t := 32) (cs := evA e) (g := w.heap.size + 1) (by simp)).push (t := 92) (cs := #[.int .i64 e.o, .int .u64 e.s]) (g := w.heap.size + 1 + 1) (by simp)
  generalize ((w.alloc _).alloc _).alloc _ = W at T0 ⊢
  have H1 := H.call T0.below
  obtain ⟨q, f⟩ := H1.blk.rules
  obtain ⟨q2, -, q1, -, q0, -, -⟩ := T0.rules
  obtain ⟨l2, l1, l0, -⟩ := T0.lts
  have lh := H1.blk.lt
  have hl1 := (H1.map.same (w' := W.drew) rfl).look hk
  have hl2 := fun cs t => ((H1.map.call (w' := W.alloc (.cells cs t)) ((Below.refl W.heap.size W).alloc (Nat.le_refl _) _)).same (w' := (W.alloc (.cells cs t)).drew) rfl).look hk
  simp only [lookV, nmA, hx, hy] at hl1 hl2
  clear hx hy
  have HT := Lib.hid T0
  have HH := Lib.hid H1
  clear H H1 T0
  go_region
  clear hl1 hl2 q f q0 q1 q2 l0 l1 l2 lh
  have T1 := (HT.out.push (t := 32) (cs := evA x) (g := W.heap.size) rfl).drew
  have H2 := (HH.out.call (w' := (W.alloc (.cells (evA x) 32)).drew) (((Below.refl W.heap.size W).alloc (Nat.le_refl _) _).drew))
  clear HT HH
  generalize (W.alloc _).drew = W1 at T1 H2 ⊢
  obtain ⟨-, -, q2, -, q1, -, q0, -, -⟩ := T1.rules
  obtain ⟨l3, l2, l1, l0, -⟩ := T1.lts
  go_wp2_with fail
  refine (C1.out _).mono ?_
  rintro r w2 ⟨rfl, hb2⟩
  have T2 := T1.call hb2
  have H3 := H2.call hb2
  clear T1 H2 hb2 q0 q1 q2 l0 l1 l2 l3 C1
  go_wp2_with fail
  go_ret
  exact ⟨rfl, T2.below⟩
theorem hput_late (H : HO w h m L) (v : Vec) (e : Ev) (ho : e.ok) (hm : emayB e = true) (hl : lateB v e = true) :
    Calls Try.prog 14 #[.pointer (some ⟨h, 0, none⟩), .agg (vecA v), .agg (evA e)] w fun r w' => r = .returned (.int .i64 14) ∧ Below w.heap.size w w' := by
  have C1 := Lib.hid (emay' e ho true hm)
  have C2 := Lib.hid (olate' v e ho true hl)
  obtain ⟨x, hx⟩ : ∃ x, (lookE L e.o e.s).getD Ev.zero = x := ⟨_, rfl⟩
  obtain ⟨y, hy⟩ : ∃ y, (lookE L e.o e.s).isSome = y := ⟨_, rfl⟩
  have hk : NmOk e.o e.s := ⟨ho.o, ho.s⟩
  go_enter Try.func14, Try.ntmps14
  go_upto_region 4 with fail
  have T0 : Trk w _ [(w.heap.size + 1 + 1, 92, #[.int .i64 e.o, .int .u64 e.s]), (w.heap.size + 1, 32, evA e), (w.heap.size, 30, vecA v)] := (((Trk.nil w).push (t := 30) (cs := vecA v) rfl).push (t := 32) (cs := evA e) (g := w.heap.size + 1) (by simp)).push (t := 92) (cs := #[.int .i64 e.o, .int .u64 e.s]) (g := w.heap.size + 1 + 1) (by simp)
  generalize ((w.alloc _).alloc _).alloc _ = W at T0 ⊢
  have H1 := H.call T0.below
  obtain ⟨q, f⟩ := H1.blk.rules
  obtain ⟨q2, -, q1, -, q0, -, -⟩ := T0.rules
  obtain ⟨l2, l1, l0, -⟩ := T0.lts
  have lh := H1.blk.lt
  have hl1 := (H1.map.same (w' := W.drew) rfl).look hk
  have hl2 := fun cs t => ((H1.map.call (w' := W.alloc (.cells cs t)) ((Below.refl W.heap.size W).alloc (Nat.le_refl _) _)).same (w' := (W.alloc (.cells cs t)).drew) rfl).look hk
  simp only [lookV, nmA, hx, hy] at hl1 hl2
  clear hx hy
  have HT := Lib.hid T0
  have HH := Lib.hid H1
  clear H H1 T0
  go_region
  clear hl1 hl2 q f q0 q1 q2 l0 l1 l2 lh
  have T1 := (HT.out.push (t := 32) (cs := evA x) (g := W.heap.size) rfl).drew
  have H2 := (HH.out.call (w' := (W.alloc (.cells (evA x) 32)).drew) (((Below.refl W.heap.size W).alloc (Nat.le_refl _) _).drew))
  clear HT HH
  generalize (W.alloc _).drew = W1 at T1 H2 ⊢
  obtain ⟨-, -, q2, -, q1, -, q0, -, -⟩ := T1.rules
  obtain ⟨l3, l2, l1, l0, -⟩ := T1.lts
  go_wp2_with fail
  refine (C1.out _).mono ?_
  rintro r w2 ⟨rfl, hb2⟩
  have T2 := T1.call hb2
  have H3 := H2.call hb2
  clear T1 H2 hb2 q0 q1 q2 l0 l1 l2 l3 C1
  obtain ⟨-, -, q2, -, q1, -, q0, -, -⟩ := T2.rules
  obtain ⟨l3, l2, l1, l0, -⟩ := T2.lts
  go_wp2_with fail
  refine (C2.out _).mono ?_
  rintro r w3 ⟨rfl, hb3⟩
  have T3 := T2.call hb3
  have H4 := H3.call hb3
  clear T2 H3 hb3 q0 q1 q2 l0 l1 l2 l3 C2
  go_wp2_with fail
  go_ret
  exact ⟨rfl, T3.below⟩
theorem hput_there (H : HO w h m L) (v : Vec) (e : Ev) (ho : e.ok) (hm : emayB e = true) (hl : lateB v e = false) {x : Ev} (hx : lookE L e.o e.s = some x) :
    Calls Try.prog 14 #[.pointer (some ⟨h, 0, none⟩), .agg (vecA v), .agg (evA e)] w fun r w' => r = .returned (.int .i64 14) ∧ Below w.heap.size w w' := by
  have C1 := Lib.hid (emay' e ho true hm)
  have C2 := Lib.hid (olate' v e ho false hl)
  have hk : NmOk e.o e.s := ⟨ho.o, ho.s⟩
  go_enter Try.func14, Try.ntmps14
  go_upto_region 4 with fail
  have T0 : Trk w _ [(w.heap.size + 1 + 1, 92, #[.int .i64 e.o, .int .u64 e.s]), (w.heap.size + 1, 32, evA e), (w.heap.size, 30, vecA v)] := (((Trk.nil w).push (t := 30) (cs := vecA v) rfl).push (t := 32) (cs := evA e) (g := w.heap.size + 1) (by simp)).push (t := 92) (cs := #[.int .i64 e.o, .int .u64 e.s]) (g := w.heap.size + 1 + 1) (by simp)
  generalize ((w.alloc _).alloc _).alloc _ = W at T0 ⊢
  have H1 := H.call T0.below
  obtain ⟨q, f⟩ := H1.blk.rules
  obtain ⟨q2, -, q1, -, q0, -, -⟩ := T0.rules
  obtain ⟨l2, l1, l0, -⟩ := T0.lts
  have lh := H1.blk.lt
  have hl1 := (H1.map.same (w' := W.drew) rfl).look hk
  have hl2 := fun cs t => ((H1.map.call (w' := W.alloc (.cells cs t)) ((Below.refl W.heap.size W).alloc (Nat.le_refl _) _)).same (w' := (W.alloc (.cells cs t)).drew) rfl).look hk
  simp only [lookV, nmA, hx, Option.getD_some, Option.isSome_some] at hl1 hl2
  have HT := Lib.hid T0
  have HH := Lib.hid H1
  clear H H1 T0
  go_region
  clear hl1 hl2 q f q0 q1 q2 l0 l1 l2 lh
  have T1 := (HT.out.push (t := 32) (cs := evA x) (g := W.heap.size) rfl).drew
  have H2 := (HH.out.call (w' := (W.alloc (.cells (evA x) 32)).drew) (((Below.refl W.heap.size W).alloc (Nat.le_refl _) _).drew))
  clear HT HH
  generalize (W.alloc _).drew = W1 at T1 H2 ⊢
  obtain ⟨-, -, q2, -, q1, -, q0, -, -⟩ := T1.rules
  obtain ⟨l3, l2, l1, l0, -⟩ := T1.lts
  go_wp2_with fail
  refine (C1.out _).mono ?_
  rintro r w2 ⟨rfl, hb2⟩
  have T2 := T1.call hb2
  have H3 := H2.call hb2
  clear T1 H2 hb2 q0 q1 q2 l0 l1 l2 l3 C1
  obtain ⟨-, -, q2, -, q1, -, q0, -, -⟩ := T2.rules
  obtain ⟨l3, l2, l1, l0, -⟩ := T2.lts
  go_wp2_with fail
  refine (C2.out _).mono ?_
  rintro r w3 ⟨rfl, hb3⟩
  have T3 := T2.call hb3
  have H4 := H3.call hb3
  clear T2 H3 hb3 q0 q1 q2 l0 l1 l2 l3 C2
  go_wp2_with fail
  go_ret
  exact ⟨rfl, T3.below⟩
theorem hput_full (H : HO w h m L) (v : Vec) (e : Ev) (ho : e.ok) (hm : emayB e = true) (hl : lateB v e = false) (hx : lookE L e.o e.s = none) (hn : 64 ≤ L.length) :
    Calls Try.prog 14 #[.pointer (some ⟨h, 0, none⟩), .agg (vecA v), .agg (evA e)] w fun r w' => r = .returned (.int .i64 7) ∧ Below w.heap.size w w' := by
  have C1 := Lib.hid (emay' e ho true hm)
  have C2 := Lib.hid (olate' v e ho false hl)
  have hk : NmOk e.o e.s := ⟨ho.o, ho.s⟩
  go_enter Try.func14, Try.ntmps14
  go_upto_region 4 with fail
  have T0 : Trk w _ [(w.heap.size + 1 + 1, 92, #[.int .i64 e.o, .int .u64 e.s]), (w.heap.size + 1, 32, evA e), (w.heap.size, 30, vecA v)] := (((Trk.nil w).push (t := 30) (cs := vecA v) rfl).push (t := 32) (cs := evA e) (g := w.heap.size + 1) (by simp)).push (t := 92) (cs := #[.int .i64 e.o, .int .u64 e.s]) (g := w.heap.size + 1 + 1) (by simp)
  generalize ((w.alloc _).alloc _).alloc _ = W at T0 ⊢
  have H1 := H.call T0.below
  obtain ⟨q, f⟩ := H1.blk.rules
  obtain ⟨q2, -, q1, -, q0, -, -⟩ := T0.rules
  obtain ⟨l2, l1, l0, -⟩ := T0.lts
  have lh := H1.blk.lt
  have hl1 := (H1.map.same (w' := W.drew) rfl).look hk
  have hl2 := fun cs t => ((H1.map.call (w' := W.alloc (.cells cs t)) ((Below.refl W.heap.size W).alloc (Nat.le_refl _) _)).same (w' := (W.alloc (.cells cs t)).drew) rfl).look hk
  simp only [lookV, nmA, hx, Option.getD_none, Option.isSome_none] at hl1 hl2
  have HT := Lib.hid T0
  have HH := Lib.hid H1
  clear H H1 T0
  go_region
  clear hl1 hl2 q f q0 q1 q2 l0 l1 l2 lh
  have T1 := (HT.out.push (t := 32) (cs := evA Ev.zero) (g := W.heap.size) rfl).drew
  have H2 := (HH.out.call (w' := (W.alloc (.cells (evA Ev.zero) 32)).drew) (((Below.refl W.heap.size W).alloc (Nat.le_refl _) _).drew))
  clear HT HH
  generalize (W.alloc _).drew = W1 at T1 H2 ⊢
  obtain ⟨-, -, q2, -, q1, -, q0, -, -⟩ := T1.rules
  obtain ⟨l3, l2, l1, l0, -⟩ := T1.lts
  go_wp2_with fail
  refine (C1.out _).mono ?_
  rintro r w2 ⟨rfl, hb2⟩
  have T2 := T1.call hb2
  have H3 := H2.call hb2
  clear T1 H2 hb2 q0 q1 q2 l0 l1 l2 l3 C1
  obtain ⟨-, -, q2, -, q1, -, q0, -, -⟩ := T2.rules
  obtain ⟨l3, l2, l1, l0, -⟩ := T2.lts
  go_wp2_with fail
  refine (C2.out _).mono ?_
  rintro r w3 ⟨rfl, hb3⟩
  have T3 := T2.call hb3
  have H4 := H3.call hb3
  clear T2 H3 hb3 q0 q1 q2 l0 l1 l2 l3 C2
  have hl := fun ty => H4.map.len ty
  obtain ⟨q, f⟩ := H4.blk.rules
  have hd : decide (64 ≤ (L.length : Int)) = true := by simp; omega
  go_wp2_with fail
  go_ret
  exact ⟨rfl, T3.below⟩
theorem hput_new (H : HO w h m L) (v : Vec) (e : Ev) (ho : e.ok) (hm : emayB e = true) (hl : lateB v e = false) (hx : lookE L e.o e.s = none) (hn : L.length < 64) :
    Calls Try.prog 14 #[.pointer (some ⟨h, 0, none⟩), .agg (vecA v), .agg (evA e)] w fun r w' => r = .returned (.int .i64 0) ∧ HO w' h m (L ++ [e]) ∧ Fr w w' m none := by
  have C1 := Lib.hid (emay' e ho true hm)
  have C2 := Lib.hid (olate' v e ho false hl)
  have HX := Lib.hid hx
  have hk : NmOk e.o e.s := ⟨ho.o, ho.s⟩
  go_enter Try.func14, Try.ntmps14
  go_upto_region 4 with fail
  have T0 : Trk w _ [(w.heap.size + 1 + 1, 92, #[.int .i64 e.o, .int .u64 e.s]), (w.heap.size + 1, 32, evA e), (w.heap.size, 30, vecA v)] := (((Trk.nil w).push (t := 30) (cs := vecA v) rfl).push (t := 32) (cs := evA e) (g := w.heap.size + 1) (by simp)).push (t := 92) (cs := #[.int .i64 e.o, .int .u64 e.s]) (g := w.heap.size + 1 + 1) (by simp)
  generalize ((w.alloc _).alloc _).alloc _ = W at T0 ⊢
  have H1 := H.call T0.below
  obtain ⟨q, f⟩ := H1.blk.rules
  obtain ⟨q2, -, q1, -, q0, -, -⟩ := T0.rules
  obtain ⟨l2, l1, l0, -⟩ := T0.lts
  have lh := H1.blk.lt
  have hl1 := (H1.map.same (w' := W.drew) rfl).look hk
  have hl2 := fun cs t => ((H1.map.call (w' := W.alloc (.cells cs t)) ((Below.refl W.heap.size W).alloc (Nat.le_refl _) _)).same (w' := (W.alloc (.cells cs t)).drew) rfl).look hk
  simp only [lookV, nmA, hx, Option.getD_none, Option.isSome_none] at hl1 hl2
  have HT := Lib.hid T0
  have HH := Lib.hid H1
  clear H H1 T0 hx
  go_region
  clear hl1 hl2 q f q0 q1 q2 l0 l1 l2 lh
  have T1 := (HT.out.push (t := 32) (cs := evA Ev.zero) (g := W.heap.size) rfl).drew
  have H2 := (HH.out.call (w' := (W.alloc (.cells (evA Ev.zero) 32)).drew) (((Below.refl W.heap.size W).alloc (Nat.le_refl _) _).drew))
  clear HT HH
  generalize (W.alloc _).drew = W1 at T1 H2 ⊢
  obtain ⟨-, -, q2, -, q1, -, q0, -, -⟩ := T1.rules
  obtain ⟨l3, l2, l1, l0, -⟩ := T1.lts
  go_wp2_with fail
  refine (C1.out _).mono ?_
  rintro r w2 ⟨rfl, hb2⟩
  have T2 := T1.call hb2
  have H3 := H2.call hb2
  clear T1 H2 hb2 q0 q1 q2 l0 l1 l2 l3 C1
  obtain ⟨-, -, q2, -, q1, -, q0, -, -⟩ := T2.rules
  obtain ⟨l3, l2, l1, l0, -⟩ := T2.lts
  go_wp2_with fail
  refine (C2.out _).mono ?_
  rintro r w3 ⟨rfl, hb3⟩
  have T3 := T2.call hb3
  have H4 := H3.call hb3
  clear T2 H3 hb3 q0 q1 q2 l0 l1 l2 l3 C2
  have hl := fun ty => H4.map.len ty
  obtain ⟨q, f⟩ := H4.blk.rules
  have hd : decide (64 ≤ (L.length : Int)) = false := by simp; omega
  go_upto_region 12 with fail
  obtain ⟨w4, hput, M4, f4⟩ := (H4.map.same (w' := w3.drew) rfl).put hk HX.out
  simp only [nmA] at hput
  obtain ⟨-, -, q2, -, q1, -, q0, -, -⟩ := T3.rules
  have HT := Lib.hid T3
  have HM := Lib.hid M4
  have HF := Lib.hid f4
  have HH := Lib.hid H4
  clear T3 M4 f4 H4 hl
  go_region
  go_wp2_with fail
  go_ret
  have F0 : Fr w3 w4 m none := Fr.trans (Fr.of_below (Below.refl _ _).drew) HF.out
  exact ⟨rfl, HH.out.turn F0 HM.out, (Fr.of_below HT.out.below).trans F0⟩
end
end Go.Proofs.Ytgbbhkdaalnchaa
