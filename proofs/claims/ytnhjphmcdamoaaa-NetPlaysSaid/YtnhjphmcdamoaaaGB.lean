/-
  What is taken of bytes, as an event: plain.
  Events one behind the other: plain.
  What a message is as cells, and which may be, and its bytes: plain. No program here.
-/
import Derived.Test.YtnhjphmcdamoaaaGA
import Derived.Test.YtnhjphmcdamoaaaGO
import Derived.Test.YtnhjphmcdamoaaaByt
namespace Go.Proofs.Ytnhjphmcdamoaaa
set_option linter.unusedVariables false
set_option linter.unusedSimpArgs false
open Go.RowKit

/-- The event that stands at a place. -/
def readAt (l : List Int) (m : Nat) : Ev :=
  ⟨numL ((l.drop m).take 1), numL ((l.drop (m + 1)).take 8), ofL ((l.drop (m + 9)).take 48), numL ((l.drop (m + 57)).take 1), numL ((l.drop (m + 58)).take 8), numL ((l.drop (m + 66)).take 1), IntKind.i64.wrap (numL ((l.drop (m + 67)).take 8)), numL ((l.drop (m + 75)).take 8), numL ((l.drop (m + 83)).take 8)⟩
theorem numL_one (l : List Int) (m : Nat) (hm : m < l.length) (h : ∀ c ∈ l, 0 ≤ c ∧ c ≤ 255) : numL ((l.drop m).take 1) = l.getD m 0 ∧ 0 ≤ l.getD m 0 ∧ l.getD m 0 ≤ 255 := by
  have e : (l.drop m).take 1 = [l[m]] := by rw [List.drop_eq_getElem_cons hm]; rfl
  have g : l.getD m 0 = l[m] := by rw [List.getD_eq_getElem?_getD, List.getElem?_eq_getElem hm]; rfl
  have r := h l[m] (List.getElem_mem hm)
  rw [e, g]
  refine ⟨?_, r⟩
  simp [numL]
theorem drop_slot (l : List Int) (m k n : Nat) (h : k + n ≤ 91) : ((((l.drop m).take 91).drop k).take n) = (l.drop (m + k)).take n := by
  rw [List.drop_take, List.take_take, List.drop_drop, Nat.min_eq_left (by omega)]
theorem getD_slot (l : List Int) (m k : Nat) (h : k < 91) : ((l.drop m).take 91).getD k 0 = l.getD (m + k) 0 := by
  rw [List.getD_eq_getElem?_getD, List.getElem?_take, if_pos h, List.getElem?_drop, List.getD_eq_getElem?_getD]
theorem readAt_eq (l : List Int) (m : Nat) (hm : m + 91 ≤ l.length) (h : ∀ c ∈ l, 0 ≤ c ∧ c ≤ 255) : readAt l m = readE ((l.drop m).take 91) := by
  unfold readAt readE ofE
  simp only
  rw [(numL_one l m (by omega) h).1, (numL_one l (m + 57) (by omega) h).1, (numL_one l (m + 66) (by omega) h).1, getD_slot l m 0 (by omega), getD_slot l m 57 (by omega), getD_slot l m 66 (by omega),
    drop_slot l m 1 8 (by omega), drop_slot l m 9 48 (by omega), drop_slot l m 58 8 (by omega), drop_slot l m 67 8 (by omega), drop_slot l m 75 8 (by omega), drop_slot l m 83 8 (by omega)]
  rfl
theorem num8_range (l : List Int) (m : Nat) (h : ∀ c ∈ l, 0 ≤ c ∧ c ≤ 255) (k : Nat) : 0 ≤ numL ((l.drop m).take k) ∧ numL ((l.drop m).take k) ≤ 18446744073709551615 :=
  numL_range _ fun c hc => h c (List.mem_of_mem_drop (List.mem_of_mem_take hc))
theorem readAt_ok (l : List Int) (m : Nat) (hm : m + 91 ≤ l.length) (h : ∀ c ∈ l, 0 ≤ c ∧ c ≤ 255) : (readAt l m).ok := by
  have a := numL_one l m (by omega) h
  have b := numL_one l (m + 57) (by omega) h
  have c := numL_one l (m + 66) (by omega) h
  refine ⟨?_, num8_range _ _ h _, ofL_ok _ fun c hc => h c (List.mem_of_mem_drop (List.mem_of_mem_take hc)), ?_, num8_range _ _ h _, ?_, ?_, num8_range _ _ h _, num8_range _ _ h _⟩
  · show -9223372036854775808 ≤ numL _ ∧ numL _ ≤ 9223372036854775807; rw [a.1]; omega
  · show 0 ≤ numL _ ∧ numL _ ≤ 255; rw [b.1]; omega
  · show -9223372036854775808 ≤ numL _ ∧ numL _ ≤ 9223372036854775807; rw [c.1]; omega
  · show -9223372036854775808 ≤ IntKind.i64.wrap _ ∧ IntKind.i64.wrap _ ≤ 9223372036854775807
    rw [IntKind.wrap_i64]; omega
/-- What is taken. -/
def takeE (l : List Int) (at_ : Int) : Ev × Int × Int :=
  if at_ < 0 ∨ (l.length : Int) < at_ then (Ev.zero, 0, 1)
  else if (l.length : Int) - at_ < 91 then (Ev.zero, 0, 5)
  else if emayB (readAt l at_.toNat) = true then (readAt l at_.toNat, at_ + 91, 0)
  else (Ev.zero, 0, 5)
theorem takeE_out {l : List Int} {at_ : Int} (h : at_ < 0 ∨ (l.length : Int) < at_) : takeE l at_ = (Ev.zero, 0, 1) := if_pos h
theorem takeE_short {l : List Int} {at_ : Int} (h1 : 0 ≤ at_) (h2 : at_ ≤ l.length) (h : (l.length : Int) - at_ < 91) : takeE l at_ = (Ev.zero, 0, 5) := by
  unfold takeE; rw [if_neg (by omega), if_pos h]
theorem takeE_yes {l : List Int} {m : Nat} (h : m + 91 ≤ l.length) (hm : emayB (readAt l m) = true) : takeE l m = (readAt l m, (m : Int) + 91, 0) := by
  unfold takeE; rw [if_neg (by omega), if_neg (by omega), Int.toNat_natCast, if_pos hm]
theorem takeE_no {l : List Int} {m : Nat} (h : m + 91 ≤ l.length) (hm : emayB (readAt l m) = false) : takeE l m = (Ev.zero, 0, 5) := by
  unfold takeE; rw [if_neg (by omega), if_neg (by omega), Int.toNat_natCast, if_neg (by simp [hm])]
/-- If the event that was read may be, its bytes are those that were read. -/
theorem evL_readAt {l : List Int} {m : Nat} (hm : m + 91 ≤ l.length) (h : ∀ c ∈ l, 0 ≤ c ∧ c ≤ 255) (hy : emayB (readAt l m) = true) : evL (readAt l m) = (l.drop m).take 91 := by
  have hmay := may_of hy
  have hl : ((l.drop m).take 91).length = 91 := by rw [List.length_take, List.length_drop]; omega
  have hr : ∀ c ∈ (l.drop m).take 91, 0 ≤ c ∧ c ≤ 255 := fun c hc => h c (List.mem_of_mem_drop (List.mem_of_mem_take hc))
  have e := readAt_eq l m hm h
  have ha : (readAt l m).a = (ofE ((l.drop m).take 91)).a := by
    rw [e]
    have h1 := hmay.a1
    have h2 := hmay.a2
    rw [e] at h1 h2
    simp only [readE] at h1 h2 ⊢
    have r : 0 ≤ (ofE ((l.drop m).take 91)).a ∧ (ofE ((l.drop m).take 91)).a ≤ 18446744073709551615 := num8_range _ _ hr _
    rw [IntKind.wrap_i64] at h1 h2 ⊢
    omega
  have e2 : readAt l m = ofE ((l.drop m).take 91) := by
    rw [e] at ha ⊢
    unfold readE at ha ⊢
    simp only at ha
    rw [ha]
  rw [e2]
  exact evL_ofE hl hr
/-- The bytes of an event that may be, wherever they stand, are read as it. -/
theorem readAt_evL {e : Ev} (hv : e.ok) (h : May e) (p q : List Int) : readAt (p ++ (evL e ++ q)) p.length = e := by
  have hd : ((p ++ (evL e ++ q)).drop p.length) = evL e ++ q := List.drop_left
  have hk : ∀ k, (p ++ (evL e ++ q)).drop (p.length + k) = (evL e ++ q).drop k := fun k => by rw [← List.drop_drop, hd]
  obtain ⟨o1, o2, s1, s2, k1, k2, t1, t2, a1, a2⟩ := h
  unfold readAt
  rw [hk 1, hk 9, hk 57, hk 58, hk 66, hk 67, hk 75, hk 83, hd]
  have e0 : (evL e ++ q).take 1 = [e.o] := rfl
  have e1 : ((evL e ++ q).drop 1).take 8 = wordL e.s := rfl
  have e2 : ((evL e ++ q).drop 9).take 48 = vecL e.d := rfl
  have e9 : ((evL e ++ q).drop 57).take 1 = [e.k] := rfl
  have e3 : ((evL e ++ q).drop 58).take 8 = wordL e.n := rfl
  have e8 : ((evL e ++ q).drop 66).take 1 = [e.t] := rfl
  have e4 : ((evL e ++ q).drop 67).take 8 = wordL e.a := rfl
  have e5 : ((evL e ++ q).drop 75).take 8 = wordL e.r := rfl
  have e6 : ((evL e ++ q).drop 83).take 8 = wordL e.f := rfl
  have n1 : ∀ x : Int, numL [x] = x := fun x => by simp [numL]
  rw [e0, e1, e2, e9, e3, e8, e4, e5, e6, n1, n1, n1, numL_word _ hv.s.1 hv.s.2, ofL_vecL _ hv.d, numL_word _ hv.n.1 hv.n.2, numL_word e.a a1 (by omega), numL_word _ hv.r.1 hv.r.2, numL_word _ hv.f.1 hv.f.2]
  have : IntKind.i64.wrap e.a = e.a := by rw [IntKind.wrap_i64]; omega
  rw [this]
/-- A vector that may not be is no event's. -/
theorem emayB_deps {e : Ev} (h : emayB e = true) : vmayB e.d = true := by
  unfold emayB at h
  simp only [Bool.and_eq_true] at h
  obtain ⟨hp, _⟩ := h
  unfold placeB at hp
  simp only [Bool.and_eq_true] at hp
  have hb := hp.2
  unfold belowMax at hb
  unfold vmayB
  rw [decide_eq_true_eq] at hb ⊢
  omega
end Go.Proofs.Ytnhjphmcdamoaaa
namespace Go.Proofs.Ytnhjphmcdamoaaa
set_option linter.unusedVariables false
set_option linter.unusedSimpArgs false
open Go.RowKit

/-- The first k events that stand one behind the other. -/
def evsAt (l : List Int) (k : Nat) : List Ev := (List.range k).map fun i => readAt l (91 * i)
theorem evsAt_succ (l : List Int) (k : Nat) : evsAt l (k + 1) = evsAt l k ++ [readAt l (91 * k)] := by unfold evsAt; rw [List.range_succ, List.map_append]; rfl
theorem evsAt_length (l : List Int) (k : Nat) : (evsAt l k).length = k := by unfold evsAt; simp
def goodB (l : List Int) : Bool := decide (l.length % 91 = 0) && (List.range (l.length / 91)).all fun i => emayB (readAt l (91 * i))
/-- What all bytes are. -/
def allE (l : List Int) : List Ev × Int := if goodB l = true then (evsAt l (l.length / 91), 0) else ([], 5)
theorem allE_no {l : List Int} (h : goodB l = false) : allE l = ([], 5) := if_neg (by simp [h])
theorem allE_yes {l : List Int} (h : goodB l = true) : allE l = (evsAt l (l.length / 91), 0) := if_pos h
theorem goodB_short {l : List Int} {k : Nat} (h : 91 * k < l.length) (h2 : l.length < 91 * k + 91) : goodB l = false := by
  unfold goodB; rw [decide_eq_false (by omega)]; rfl
theorem goodB_no {l : List Int} {k : Nat} (h : 91 * k + 91 ≤ l.length) (hm : emayB (readAt l (91 * k)) = false) : goodB l = false := by
  have : ((List.range (l.length / 91)).all fun i => emayB (readAt l (91 * i))) = false := by
    rw [List.all_eq_false]
    exact ⟨k, List.mem_range.2 (by omega), by simp [hm]⟩
  unfold goodB; rw [this, Bool.and_false]
theorem goodB_yes {l : List Int} {k : Nat} (h : 91 * k = l.length) (hm : ∀ i, i < k → emayB (readAt l (91 * i)) = true) : goodB l = true := by
  unfold goodB
  rw [decide_eq_true (by omega), Bool.true_and, List.all_eq_true]
  intro i hi
  exact hm i (by have := List.mem_range.1 hi; omega)
theorem goodB_out {l : List Int} (h : goodB l = true) : l.length % 91 = 0 ∧ ∀ i, i < l.length / 91 → emayB (readAt l (91 * i)) = true := by
  unfold goodB at h
  simp only [Bool.and_eq_true, decide_eq_true_eq, List.all_eq_true] at h
  exact ⟨h.1, fun i hi => h.2 i (List.mem_range.2 hi)⟩
/-- All that is put, one behind the other. -/
def putsE (L : List Ev) : List Int := L.flatMap putE
theorem putsE_snoc (L : List Ev) (e : Ev) : putsE (L ++ [e]) = putsE L ++ putE e := by simp [putsE]
theorem putsE_range (L : List Ev) : ∀ c ∈ putsE L, 0 ≤ c ∧ c ≤ 255 := by
  intro c hc
  obtain ⟨e, _, he⟩ := List.mem_flatMap.1 hc
  exact putE_range e c he
theorem putsE_length {L : List Ev} (h : ∀ e ∈ L, emayB e = true) : (putsE L).length = 91 * L.length := by
  induction L with
  | nil => rfl
  | cons e L ih =>
    have ih := ih fun x hx => h x (List.mem_cons_of_mem _ hx)
    simp only [putsE, List.flatMap_cons, List.length_append, List.length_cons] at ih ⊢
    rw [ih, putE_yes (h e List.mem_cons_self), evL_length]; omega
/-- The i-th event of what was put, whatever stands behind. -/
theorem readAt_puts {L : List Ev} (h : ∀ e ∈ L, emayB e = true) (ok : ∀ e ∈ L, e.ok) (q : List Int) (i : Nat) (e : Ev) (hi : L[i]? = some e) : readAt (putsE L ++ q) (91 * i) = e := by
  obtain ⟨p, r, rfl, rfl⟩ : ∃ p r, L = p ++ e :: r ∧ p.length = i := by
    have hlt := (List.getElem?_eq_some_iff.1 hi).1
    refine ⟨L.take i, L.drop (i + 1), ?_, by rw [List.length_take]; omega⟩
    rw [List.getElem?_eq_getElem hlt] at hi
    rw [← Option.some.inj hi, ← List.drop_eq_getElem_cons hlt, List.take_append_drop]
  have hp := putsE_length (L := p) fun x hx => h x (by simp [hx])
  have he : emayB e = true := h e (by simp)
  have : putsE (p ++ e :: r) ++ q = putsE p ++ (evL e ++ (putsE r ++ q)) := by
    simp only [putsE, List.flatMap_append, List.flatMap_cons, List.append_assoc, putE_yes he]
  rw [this, ← hp]
  exact readAt_evL (ok e (by simp)) (may_of he) _ _
theorem evsAt_puts {L : List Ev} (h : ∀ e ∈ L, emayB e = true) (ok : ∀ e ∈ L, e.ok) (q : List Int) (k : Nat) (hk : k ≤ L.length) : evsAt (putsE L ++ q) k = L.take k := by
  induction k with
  | zero => rfl
  | succ k ih =>
    obtain ⟨e, he⟩ : ∃ e, L[k]? = some e := ⟨L[k], List.getElem?_eq_getElem (by omega)⟩
    rw [evsAt_succ, ih (by omega), readAt_puts h ok q k e he, List.take_add_one, he]; rfl
theorem readAt_take (l : List Int) (m n : Nat) (h : m + 91 ≤ n) : readAt (l.take n) m = readAt l m := by
  have hd : ∀ k j, k + j ≤ n → ((l.take n).drop k).take j = (l.drop k).take j := fun k j hk => by
    rw [List.drop_take, List.take_take, Nat.min_eq_left (by omega)]
  unfold readAt
  rw [hd m 1 (by omega), hd (m + 1) 8 (by omega), hd (m + 9) 48 (by omega), hd (m + 57) 1 (by omega), hd (m + 58) 8 (by omega), hd (m + 66) 1 (by omega), hd (m + 67) 8 (by omega), hd (m + 75) 8 (by omega), hd (m + 83) 8 (by omega)]
theorem evsAt_take (l : List Int) (n k : Nat) (h : 91 * k ≤ n) : evsAt (l.take n) k = evsAt l k := by
  unfold evsAt
  refine List.map_congr_left fun i hi => readAt_take l _ n ?_
  have := List.mem_range.1 hi
  omega
/-- Bytes of events, cut. -/
theorem allE_puts_take {L : List Ev} (h : ∀ e ∈ L, emayB e = true) (ok : ∀ e ∈ L, e.ok) (n : Nat) (hn : n ≤ (putsE L).length) :
    allE ((putsE L).take n) = if n % 91 = 0 then (L.take (n / 91), 0) else ([], 5) := by
  have hl := putsE_length h
  have hlen : ((putsE L).take n).length = n := by rw [List.length_take]; omega
  have hq := fun k hk => evsAt_puts h ok [] k hk
  simp only [List.append_nil] at hq
  by_cases hz : n % 91 = 0
  · rw [if_pos hz]
    have hg : goodB ((putsE L).take n) = true := by
      refine goodB_yes (k := n / 91) (by rw [hlen]; omega) fun i hi => ?_
      obtain ⟨e, he⟩ : ∃ e, L[i]? = some e := ⟨L[i]'(by omega), List.getElem?_eq_getElem (by omega)⟩
      have := readAt_puts h ok [] i e he
      rw [List.append_nil] at this
      rw [readAt_take _ _ _ (by omega), this]
      exact h e (List.mem_of_getElem? he)
    rw [allE_yes hg, hlen, evsAt_take _ _ _ (by omega), hq _ (by omega)]
  · rw [if_neg hz]
    have hg : goodB ((putsE L).take n) = false := by unfold goodB; rw [hlen, decide_eq_false hz]; rfl
    exact allE_no hg
theorem allE_len {l : List Int} (h : l.length % 91 ≠ 0) : allE l = ([], 5) := allE_no (by unfold goodB; rw [decide_eq_false h]; rfl)
end Go.Proofs.Ytnhjphmcdamoaaa
namespace Go.Proofs.Ytnhjphmcdamoaaa
set_option linter.unusedVariables false
set_option linter.unusedSimpArgs false
open Go.RowKit

/-- A message as cells: kind, from, to, what is known, the events' slice, node, amount. -/
structure Mc where
  k : Int
  f : Int
  t : Int
  d : Vec
  s : Value
  n : Int
  a : Int
def mcA (x : Mc) : Array Value := #[Value.int .u8 x.k, Value.int .i64 x.f, Value.int .i64 x.t, Value.int .u64 x.d.v0, Value.int .u64 x.d.v1, Value.int .u64 x.d.v2, Value.int .u64 x.d.v3, Value.int .u64 x.d.v4, Value.int .u64 x.d.v5, x.s, Value.int .u64 x.n, Value.int .i64 x.a]
theorem mcA_size (x : Mc) : (mcA x).size = 12 := rfl
theorem mcA_toList (x : Mc) : (mcA x).toList = [Value.int .u8 x.k, Value.int .i64 x.f, Value.int .i64 x.t, Value.int .u64 x.d.v0, Value.int .u64 x.d.v1, Value.int .u64 x.d.v2, Value.int .u64 x.d.v3, Value.int .u64 x.d.v4, Value.int .u64 x.d.v5, x.s, Value.int .u64 x.n, Value.int .i64 x.a] := rfl
theorem mcA_0 (x : Mc) : (mcA x)[0]? = some (Value.int .u8 x.k) := rfl
theorem mcA_1 (x : Mc) : (mcA x)[1]? = some (Value.int .i64 x.f) := rfl
theorem mcA_2 (x : Mc) : (mcA x)[2]? = some (Value.int .i64 x.t) := rfl
theorem mcA_3 (x : Mc) : (mcA x)[3]? = some (Value.int .u64 x.d.v0) := rfl
theorem mcA_4 (x : Mc) : (mcA x)[4]? = some (Value.int .u64 x.d.v1) := rfl
theorem mcA_5 (x : Mc) : (mcA x)[5]? = some (Value.int .u64 x.d.v2) := rfl
theorem mcA_6 (x : Mc) : (mcA x)[6]? = some (Value.int .u64 x.d.v3) := rfl
theorem mcA_7 (x : Mc) : (mcA x)[7]? = some (Value.int .u64 x.d.v4) := rfl
theorem mcA_8 (x : Mc) : (mcA x)[8]? = some (Value.int .u64 x.d.v5) := rfl
theorem mcA_9 (x : Mc) : (mcA x)[9]? = some (x.s) := rfl
theorem mcA_10 (x : Mc) : (mcA x)[10]? = some (Value.int .u64 x.n) := rfl
theorem mcA_11 (x : Mc) : (mcA x)[11]? = some (Value.int .i64 x.a) := rfl
theorem mcA_mk (x0 : Int) (x1 : Int) (x2 : Int) (x3 : Int) (x4 : Int) (x5 : Int) (x6 : Int) (x7 : Int) (x8 : Int) (x9 : Value) (x10 : Int) (x11 : Int) : #[Value.int .u8 x0, Value.int .i64 x1, Value.int .i64 x2, Value.int .u64 x3, Value.int .u64 x4, Value.int .u64 x5, Value.int .u64 x6, Value.int .u64 x7, Value.int .u64 x8, x9, Value.int .u64 x10, Value.int .i64 x11] = mcA ⟨x0, x1, x2, ⟨x3, x4, x5, x6, x7, x8⟩, x9, x10, x11⟩ := rfl
theorem mc_eta (x : Mc) : (⟨x.k, x.f, x.t, x.d, x.s, x.n, x.a⟩ : Mc) = x := rfl
theorem mcA_set0 (x : Mc) (y : Int) : (mcA x).setIfInBounds 0 (.int .u8 y) = mcA ⟨y, x.f, x.t, x.d, x.s, x.n, x.a⟩ := rfl
theorem mcA_set1 (x : Mc) (y : Int) : (mcA x).setIfInBounds 1 (.int .i64 y) = mcA ⟨x.k, y, x.t, x.d, x.s, x.n, x.a⟩ := rfl
theorem mcA_set2 (x : Mc) (y : Int) : (mcA x).setIfInBounds 2 (.int .i64 y) = mcA ⟨x.k, x.f, y, x.d, x.s, x.n, x.a⟩ := rfl
theorem mcA_set3 (x : Mc) (y : Int) : (mcA x).setIfInBounds 3 (.int .u64 y) = mcA ⟨x.k, x.f, x.t, ⟨y, x.d.v1, x.d.v2, x.d.v3, x.d.v4, x.d.v5⟩, x.s, x.n, x.a⟩ := rfl
theorem mcA_set4 (x : Mc) (y : Int) : (mcA x).setIfInBounds 4 (.int .u64 y) = mcA ⟨x.k, x.f, x.t, ⟨x.d.v0, y, x.d.v2, x.d.v3, x.d.v4, x.d.v5⟩, x.s, x.n, x.a⟩ := rfl
theorem mcA_set5 (x : Mc) (y : Int) : (mcA x).setIfInBounds 5 (.int .u64 y) = mcA ⟨x.k, x.f, x.t, ⟨x.d.v0, x.d.v1, y, x.d.v3, x.d.v4, x.d.v5⟩, x.s, x.n, x.a⟩ := rfl
theorem mcA_set6 (x : Mc) (y : Int) : (mcA x).setIfInBounds 6 (.int .u64 y) = mcA ⟨x.k, x.f, x.t, ⟨x.d.v0, x.d.v1, x.d.v2, y, x.d.v4, x.d.v5⟩, x.s, x.n, x.a⟩ := rfl
theorem mcA_set7 (x : Mc) (y : Int) : (mcA x).setIfInBounds 7 (.int .u64 y) = mcA ⟨x.k, x.f, x.t, ⟨x.d.v0, x.d.v1, x.d.v2, x.d.v3, y, x.d.v5⟩, x.s, x.n, x.a⟩ := rfl
theorem mcA_set8 (x : Mc) (y : Int) : (mcA x).setIfInBounds 8 (.int .u64 y) = mcA ⟨x.k, x.f, x.t, ⟨x.d.v0, x.d.v1, x.d.v2, x.d.v3, x.d.v4, y⟩, x.s, x.n, x.a⟩ := rfl
theorem mcA_set9 (x : Mc) (y : Value) : (mcA x).setIfInBounds 9 (y) = mcA ⟨x.k, x.f, x.t, x.d, y, x.n, x.a⟩ := rfl
theorem mcA_set10 (x : Mc) (y : Int) : (mcA x).setIfInBounds 10 (.int .u64 y) = mcA ⟨x.k, x.f, x.t, x.d, x.s, y, x.a⟩ := rfl
theorem mcA_set11 (x : Mc) (y : Int) : (mcA x).setIfInBounds 11 (.int .i64 y) = mcA ⟨x.k, x.f, x.t, x.d, x.s, x.n, y⟩ := rfl
theorem mcA_ne_nil (x : Mc) : (mcA x = #[]) = False := by simp [mcA]
def Mc.zero : Mc := ⟨0, 0, 0, Vec.zero, .slice none 0 0, 0, 0⟩
theorem mc_zero : (⟨0, 0, 0, Vec.zero, .slice none 0 0, 0, 0⟩ : Mc) = Mc.zero := rfl
attribute [go_sem] mcA_size mcA_toList mcA_mk mc_eta mc_zero mcA_ne_nil mcA_0 mcA_1 mcA_2 mcA_3 mcA_4 mcA_5 mcA_6 mcA_7 mcA_8 mcA_9 mcA_10 mcA_11 mcA_set0 mcA_set1 mcA_set2 mcA_set3 mcA_set4 mcA_set5 mcA_set6 mcA_set7 mcA_set8 mcA_set9 mcA_set10 mcA_set11
@[go_sem] theorem mczero_k : Mc.zero.k = 0 := rfl
@[go_sem] theorem mczero_f : Mc.zero.f = 0 := rfl
@[go_sem] theorem mczero_t : Mc.zero.t = 0 := rfl
@[go_sem] theorem mczero_d : Mc.zero.d = Vec.zero := rfl
@[go_sem] theorem mczero_s : Mc.zero.s = .slice none 0 0 := rfl
@[go_sem] theorem mczero_n : Mc.zero.n = 0 := rfl
@[go_sem] theorem mczero_a : Mc.zero.a = 0 := rfl
theorem mcA_all (O R : Mc) : (((((((((((((mcA O).setIfInBounds 0 (.int .u8 R.k)).setIfInBounds 1 (.int .i64 R.f)).setIfInBounds 2 (.int .i64 R.t)).setIfInBounds 3 (.int .u64 R.d.v0)).setIfInBounds 4 (.int .u64 R.d.v1)).setIfInBounds 5 (.int .u64 R.d.v2)).setIfInBounds 6 (.int .u64 R.d.v3)).setIfInBounds 7 (.int .u64 R.d.v4)).setIfInBounds 8 (.int .u64 R.d.v5)).setIfInBounds 9 R.s).setIfInBounds 10 (.int .u64 R.n)).setIfInBounds 11 (.int .i64 R.a)) = mcA R := by kernel_rfl
/-- A message: kind, from, to, what is known, events, node, amount. -/
structure Ms where
  k : Int
  f : Int
  t : Int
  d : Vec
  l : List Ev
  n : Int
  a : Int
namespace Ms
theorem ext {x y : Ms} (h0 : x.k = y.k) (h1 : x.f = y.f) (h2 : x.t = y.t) (h3 : x.d = y.d) (h4 : x.l = y.l) (h5 : x.n = y.n) (h6 : x.a = y.a) : x = y := by
  cases x; cases y; simp_all
instance : DecidableEq Ms := fun x y =>
  decidable_of_iff (x.k = y.k ∧ x.f = y.f ∧ x.t = y.t ∧ x.d = y.d ∧ x.l = y.l ∧ x.n = y.n ∧ x.a = y.a)
    ⟨fun ⟨h0, h1, h2, h3, h4, h5, h6⟩ => ext h0 h1 h2 h3 h4 h5 h6, fun h => by subst h; simp⟩
def zero : Ms := ⟨0, 0, 0, Vec.zero, [], 0, 0⟩
structure ok (m : Ms) : Prop where
  k : 0 ≤ m.k ∧ m.k ≤ 255
  f : -9223372036854775808 ≤ m.f ∧ m.f ≤ 9223372036854775807
  t : -9223372036854775808 ≤ m.t ∧ m.t ≤ 9223372036854775807
  d : m.d.ok
  l : ∀ e ∈ m.l, e.ok
  n : 0 ≤ m.n ∧ m.n ≤ 18446744073709551615
  a : -9223372036854775808 ≤ m.a ∧ m.a ≤ 9223372036854775807
/-- Its cells, the events' slice given. -/
abbrev mc (m : Ms) (A : Option Addr) (c : Nat) : Mc := ⟨m.k, m.f, m.t, m.d, .slice A m.l.length c, m.n, m.a⟩
end Ms
/-- Which message may be: its ends, and what its kind has. -/
def endsB (m : Ms) : Bool := regE m.f && regE m.t && decide (m.f ≠ m.t) && vmayB m.d
def syncB (m : Ms) : Bool := m.l.all emayB && decide (m.l.length ≤ 16) && decide (m.n = 0) && decide (m.a = 0)
def askB (m : Ms) : Bool := decide (m.l.length = 0) && decide (m.n ≠ 0) && decide (1 ≤ m.a) && decide (m.a ≤ 1125899906842624)
def mmayB (m : Ms) : Bool := endsB m && (if m.k = 1 then syncB m else if m.k = 2 then askB m else false)
def headM (m : Ms) : List Int := m.k :: m.f :: m.t :: vecL m.d
def tailM (m : Ms) : List Int := if m.k = 1 then putsE m.l else wordL m.n ++ wordL m.a
def putM (m : Ms) : List Int := if mmayB m = true then headM m ++ tailM m else []
theorem putM_yes {m : Ms} (h : mmayB m = true) : putM m = headM m ++ tailM m := if_pos h
theorem putM_no {m : Ms} (h : mmayB m = false) : putM m = [] := if_neg (by simp [h])
theorem headM_length (m : Ms) : (headM m).length = 51 := rfl
structure MayM (m : Ms) : Prop where
  f : 1 ≤ m.f ∧ m.f ≤ 6
  t : 1 ≤ m.t ∧ m.t ≤ 6
  ne : m.f ≠ m.t
  d : vmayB m.d = true
  k : (m.k = 1 ∧ (∀ e ∈ m.l, emayB e = true) ∧ m.l.length ≤ 16 ∧ m.n = 0 ∧ m.a = 0) ∨ (m.k = 2 ∧ m.l = [] ∧ m.n ≠ 0 ∧ 1 ≤ m.a ∧ m.a ≤ 1125899906842624)
theorem mayM_of {m : Ms} (h : mmayB m = true) : MayM m := by
  unfold mmayB endsB at h
  simp only [Bool.and_eq_true, decide_eq_true_eq] at h
  obtain ⟨⟨⟨⟨h1, h2⟩, h3⟩, h4⟩, h5⟩ := h
  obtain ⟨i, hi, ei⟩ := regE_out h1
  obtain ⟨j, hj, ej⟩ := regE_out h2
  refine ⟨⟨by omega, by omega⟩, ⟨by omega, by omega⟩, h3, h4, ?_⟩
  by_cases k1 : m.k = 1
  · rw [if_pos k1] at h5
    unfold syncB at h5
    simp only [Bool.and_eq_true, decide_eq_true_eq, List.all_eq_true] at h5
    exact .inl ⟨k1, h5.1.1.1, h5.1.1.2, h5.1.2, h5.2⟩
  · rw [if_neg k1] at h5
    by_cases k2 : m.k = 2
    · rw [if_pos k2] at h5
      unfold askB at h5
      simp only [Bool.and_eq_true, decide_eq_true_eq] at h5
      exact .inr ⟨k2, List.eq_nil_of_length_eq_zero h5.1.1.1, h5.1.1.2, h5.1.2, h5.2⟩
    · rw [if_neg k2] at h5; cases h5
theorem putM_length {m : Ms} (h : mmayB m = true) : (putM m).length = if m.k = 1 then 51 + 91 * m.l.length else 67 := by
  rw [putM_yes h, List.length_append, headM_length]
  unfold tailM
  rcases (mayM_of h).k with ⟨hk, hl, _⟩ | ⟨hk, _⟩
  · rw [if_pos hk, if_pos hk, putsE_length hl]
  · rw [if_neg (by omega), if_neg (by omega)]; rfl
theorem putM_length_le {m : Ms} : (putM m).length ≤ 1507 := by
  cases h : mmayB m with
  | false => rw [putM_no h]; exact Nat.zero_le _
  | true =>
    rw [putM_length h]
    rcases (mayM_of h).k with ⟨hk, _, hl, _⟩ | ⟨hk, _⟩
    · rw [if_pos hk]; omega
    · rw [if_neg (by omega)]; omega
theorem putM_range (m : Ms) : ∀ c ∈ putM m, 0 ≤ c ∧ c ≤ 255 := by
  cases h : mmayB m with
  | false => intro c hc; rw [putM_no h] at hc; cases hc
  | true =>
    have hm := mayM_of h
    intro c hc
    rw [putM_yes h] at hc
    rcases List.mem_append.1 hc with hc | hc
    · simp only [headM, List.mem_cons] at hc
      rcases hc with rfl | rfl | rfl | hc
      · rcases hm.k with hk | hk
        · omega
        · omega
      · have := hm.f; omega
      · have := hm.t; omega
      · exact vecL_range _ c hc
    · unfold tailM at hc
      split at hc
      · exact putsE_range _ c hc
      · rcases List.mem_append.1 hc with hc | hc
        · exact wordL_range _ c hc
        · exact wordL_range _ c hc
theorem allE_puts {L : List Ev} (h : ∀ e ∈ L, emayB e = true) (ok : ∀ e ∈ L, e.ok) : allE (putsE L) = (L, 0) := by
  have := allE_puts_take h ok (putsE L).length (Nat.le_refl _)
  rw [List.take_of_length_le (Nat.le_refl _), if_pos (by rw [putsE_length h]; omega), putsE_length h, Nat.mul_div_cancel_left _ (by omega), List.take_of_length_le (Nat.le_refl _)] at this
  exact this
/-- Numbers behind the head, as they are taken. -/
def node8 (r : List Int) : Int := if 8 ≤ r.length then numL (r.take 8) else 0
def amount8 (r : List Int) : Int := if 16 ≤ r.length then IntKind.i64.wrap (numL ((r.drop 8).take 8)) else 0
/-- The message that bytes are, if they are one. -/
def readM (b : List Int) : Ms :=
  let k := b.getD 0 0
  ⟨k, b.getD 1 0, b.getD 2 0, (vofP ((b.drop 3).take 48)).1, if k = 1 then (allE (b.drop 51)).1 else [], if k = 2 then node8 (b.drop 51) else 0, if k = 2 then amount8 (b.drop 51) else 0⟩
def getM (b : List Int) : Ms × Int := if 51 ≤ b.length ∧ putM (readM b) = b then (readM b, 0) else (Ms.zero, 5)
theorem getM_yes {b : List Int} (h : 51 ≤ b.length) (h2 : putM (readM b) = b) : getM b = (readM b, 0) := if_pos ⟨h, h2⟩
theorem getM_no {b : List Int} (h : ¬ (51 ≤ b.length ∧ putM (readM b) = b)) : getM b = (Ms.zero, 5) := if_neg h
theorem getM_cases (b : List Int) : getM b = (Ms.zero, 5) ∨ (getM b = (readM b, 0) ∧ putM (readM b) = b ∧ mmayB (readM b) = true) := by
  by_cases h : 51 ≤ b.length ∧ putM (readM b) = b
  · refine .inr ⟨if_pos h, h.2, ?_⟩
    cases hm : mmayB (readM b) with
    | true => rfl
    | false =>
      have h2 := h.2
      rw [putM_no hm] at h2
      have h1 := h.1
      rw [← h2] at h1
      cases h1
  · exact .inl (if_neg h)
theorem readM_putM {m : Ms} (o : m.ok) (h : mmayB m = true) : readM (putM m) = m := by
  have hm := mayM_of h
  rw [putM_yes h]
  have e0 : (headM m ++ tailM m).getD 0 0 = m.k := rfl
  have e1 : (headM m ++ tailM m).getD 1 0 = m.f := rfl
  have e2 : (headM m ++ tailM m).getD 2 0 = m.t := rfl
  have e3 : ((headM m ++ tailM m).drop 3).take 48 = vecL m.d := rfl
  have e4 : (headM m ++ tailM m).drop 51 = tailM m := rfl
  have ev : (vofP (vecL m.d)).1 = m.d := by
    unfold vofP
    rw [ofL_vecL _ o.d, if_pos ⟨rfl, hm.d⟩]
  unfold readM
  simp only [e0, e1, e2, e3, e4, ev]
  unfold tailM
  rcases hm.k with ⟨hk, hl, hl2, hn, ha⟩ | ⟨hk, hl, hn, ha, ha2⟩
  · have k2 : ¬ m.k = 2 := by omega
    simp only [if_pos hk, if_neg k2]
    have := allE_puts hl o.l
    rw [this]
    exact Ms.ext rfl rfl rfl rfl rfl hn.symm ha.symm
  · have k1 : ¬ m.k = 1 := by omega
    simp only [if_neg k1, if_pos hk]
    have n8 : node8 (wordL m.n ++ wordL m.a) = m.n := by
      unfold node8
      rw [if_pos (by rw [List.length_append, wordL_length, wordL_length]; decide)]
      show numL (wordL m.n) = m.n
      exact numL_word _ o.n.1 o.n.2
    have a8 : amount8 (wordL m.n ++ wordL m.a) = m.a := by
      unfold amount8
      rw [if_pos (by rw [List.length_append, wordL_length, wordL_length]; decide)]
      show IntKind.i64.wrap (numL (wordL m.a)) = m.a
      rw [numL_word m.a (by omega) (by omega), IntKind.wrap_i64]
      omega
    rw [n8, a8]
    exact Ms.ext rfl rfl rfl rfl hl.symm rfl rfl
theorem getM_putM {m : Ms} (o : m.ok) (h : mmayB m = true) : getM (putM m) = (m, 0) := by
  have e := readM_putM o h
  have hl : 51 ≤ (putM m).length := by rw [putM_yes h, List.length_append, headM_length]; omega
  rw [getM_yes hl (by rw [e]), e]
end Go.Proofs.Ytnhjphmcdamoaaa
