/-
  What is taken of bytes, as an event: plain.
-/
import Derived.Test.YtgannlbhhanflaaEpP
import Derived.Test.YtgannlbhhanflaaVecC
namespace Go.Proofs.Ytgannlbhhanflaa
set_option linter.unusedVariables false
set_option linter.unusedSimpArgs false
open Go.RowKit

/-- The event that stands at a place. -/
def readAt (l : List Int) (m : Nat) : Ev :=
  ⟨numL ((l.drop m).take 1), numL ((l.drop (m + 1)).take 8), ofL ((l.drop (m + 9)).take 48), numL ((l.drop (m + 57)).take 1), numL ((l.drop (m + 58)).take 8), numL ((l.drop (m + 66)).take 1), IntKind.i64.wrap (numL ((l.drop (m + 67)).take 8)), numL ((l.drop (m + 75)).take 8), numL ((l.drop (m + 83)).take 8)⟩
theorem numL_one (l : List Int) (m : Nat) (hm : m < l.length) (h : ∀ c ∈ l, 0 ≤ c ∧ c ≤ 255) : numL ((l.drop m).take 1) = l.getD m 0 ∧ 0 ≤ l.getD m 0 ∧ l.getD m 0 ≤ 255 := by
  have e : (l.drop m).take 1 = [l[m]] := by rw [List.drop_eq_getElem_cons hm]; rfl
  have g : l.getD m 0 = l[m] := by rw [List.getD_eq_getElem?_getD, List.getElem?_eq_getElem hm]; rfl
  have r := h l[m] (List.getElem_mem hm)
  rw [e, g]
  refine ⟨?_, r⟩
  simp [numL]
theorem drop_slot (l : List Int) (m k n : Nat) (h : k + n ≤ 91) : ((((l.drop m).take 91).drop k).take n) = (l.drop (m + k)).take n := by
  rw [List.drop_take, List.take_take, List.drop_drop, Nat.min_eq_left (by omega)]
theorem getD_slot (l : List Int) (m k : Nat) (h : k < 91) : ((l.drop m).take 91).getD k 0 = l.getD (m + k) 0 := by
  rw [List.getD_eq_getElem?_getD, List.getElem?_take, if_pos h, List.getElem?_drop, List.getD_eq_getElem?_getD]
theorem readAt_eq (l : List Int) (m : Nat) (hm : m + 91 ≤ l.length) (h : ∀ c ∈ l, 0 ≤ c ∧ c ≤ 255) : readAt l m = readE ((l.drop m).take 91) := by
  unfold readAt readE ofE
  simp only
  rw [(numL_one l m (by omega) h).1, (numL_one l (m + 57) (by omega) h).1, (numL_one l (m + 66) (by omega) h).1, getD_slot l m 0 (by omega), getD_slot l m 57 (by omega), getD_slot l m 66 (by omega),
    drop_slot l m 1 8 (by omega), drop_slot l m 9 48 (by omega), drop_slot l m 58 8 (by omega), drop_slot l m 67 8 (by omega), drop_slot l m 75 8 (by omega), drop_slot l m 83 8 (by omega)]
  rfl
theorem num8_range (l : List Int) (m : Nat) (h : ∀ c ∈ l, 0 ≤ c ∧ c ≤ 255) (k : Nat) : 0 ≤ numL ((l.drop m).take k) ∧ numL ((l.drop m).take k) ≤ 18446744073709551615 :=
  numL_range _ fun c hc => h c (List.mem_of_mem_drop (List.mem_of_mem_take hc))
theorem readAt_ok (l : List Int) (m : Nat) (hm : m + 91 ≤ l.length) (h : ∀ c ∈ l, 0 ≤ c ∧ c ≤ 255) : (readAt l m).ok := by
  have a := numL_one l m (by omega) h
  have b := numL_one l (m + 57) (by omega) h
  have c := numL_one l (m + 66) (by omega) h
  refine ⟨?_, num8_range _ _ h _, ofL_ok _ fun c hc => h c (List.mem_of_mem_drop (List.mem_of_mem_take hc)), ?_, num8_range _ _ h _, ?_, ?_, num8_range _ _ h _, num8_range _ _ h _⟩
  · show -9223372036854775808 ≤ numL _ ∧ numL _ ≤ 9223372036854775807; rw [a.1]; omega
  · show 0 ≤ numL _ ∧ numL _ ≤ 255; rw [b.1]; omega
  · show -9223372036854775808 ≤ numL _ ∧ numL _ ≤ 9223372036854775807; rw [c.1]; omega
  · show -9223372036854775808 ≤ IntKind.i64.wrap _ ∧ IntKind.i64.wrap _ ≤ 9223372036854775807
    rw [IntKind.wrap_i64]; omega
/-- What is taken. -/
def takeE (l : List Int) (at_ : Int) : Ev × Int × Int :=
  if at_ < 0 ∨ (l.length : Int) < at_ then (Ev.zero, 0, 1)
  else if (l.length : Int) - at_ < 91 then (Ev.zero, 0, 5)
  else if emayB (readAt l at_.toNat) = true then (readAt l at_.toNat, at_ + 91, 0)
  else (Ev.zero, 0, 5)
theorem takeE_out {l : List Int} {at_ : Int} (h : at_ < 0 ∨ (l.length : Int) < at_) : takeE l at_ = (Ev.zero, 0, 1) := if_pos h
theorem takeE_short {l : List Int} {at_ : Int} (h1 : 0 ≤ at_) (h2 : at_ ≤ l.length) (h : (l.length : Int) - at_ < 91) : takeE l at_ = (Ev.zero, 0, 5) := by
  unfold takeE; rw [if_neg (by omega), if_pos h]
theorem takeE_yes {l : List Int} {m : Nat} (h : m + 91 ≤ l.length) (hm : emayB (readAt l m) = true) : takeE l m = (readAt l m, (m : Int) + 91, 0) := by
  unfold takeE; rw [if_neg (by omega), if_neg (by omega), Int.toNat_natCast, if_pos hm]
theorem takeE_no {l : List Int} {m : Nat} (h : m + 91 ≤ l.length) (hm : emayB (readAt l m) = false) : takeE l m = (Ev.zero, 0, 5) := by
  unfold takeE; rw [if_neg (by omega), if_neg (by omega), Int.toNat_natCast, if_neg (by simp [hm])]
/-- If the event that was read may be, its bytes are those that were read. -/
theorem evL_readAt {l : List Int} {m : Nat} (hm : m + 91 ≤ l.length) (h : ∀ c ∈ l, 0 ≤ c ∧ c ≤ 255) (hy : emayB (readAt l m) = true) : evL (readAt l m) = (l.drop m).take 91 := by
  have hmay := may_of hy
  have hl : ((l.drop m).take 91).length = 91 := by rw [List.length_take, List.length_drop]; omega
  have hr : ∀ c ∈ (l.drop m).take 91, 0 ≤ c ∧ c ≤ 255 := fun c hc => h c (List.mem_of_mem_drop (List.mem_of_mem_take hc))
  have e := readAt_eq l m hm h
  have ha : (readAt l m).a = (ofE ((l.drop m).take 91)).a := by
    rw [e]
    have h1 := hmay.a1
    have h2 := hmay.a2
    rw [e] at h1 h2
    simp only [readE] at h1 h2 ⊢
    have r : 0 ≤ (ofE ((l.drop m).take 91)).a ∧ (ofE ((l.drop m).take 91)).a ≤ 18446744073709551615 := num8_range _ _ hr _
    rw [IntKind.wrap_i64] at h1 h2 ⊢
    omega
  have e2 : readAt l m = ofE ((l.drop m).take 91) := by
    rw [e] at ha ⊢
    unfold readE at ha ⊢
    simp only at ha
    rw [ha]
  rw [e2]
  exact evL_ofE hl hr
/-- The bytes of an event that may be, wherever they stand, are read as it. -/
theorem readAt_evL {e : Ev} (hv : e.ok) (h : May e) (p q : List Int) : readAt (p ++ (evL e ++ q)) p.length = e := by
  have hd : ((p ++ (evL e ++ q)).drop p.length) = evL e ++ q := List.drop_left
  have hk : ∀ k, (p ++ (evL e ++ q)).drop (p.length + k) = (evL e ++ q).drop k := fun k => by rw [← List.drop_drop, hd]
  obtain ⟨o1, o2, s1, s2, k1, k2, t1, t2, a1, a2⟩ := h
  unfold readAt
  rw [hk 1, hk 9, hk 57, hk 58, hk 66, hk 67, hk 75, hk 83, hd]
  have e0 : (evL e ++ q).take 1 = [e.o] := rfl
  have e1 : ((evL e ++ q).drop 1).take 8 = wordL e.s := rfl
  have e2 : ((evL e ++ q).drop 9).take 48 = vecL e.d := rfl
  have e9 : ((evL e ++ q).drop 57).take 1 = [e.k] := rfl
  have e3 : ((evL e ++ q).drop 58).take 8 = wordL e.n := rfl
  have e8 : ((evL e ++ q).drop 66).take 1 = [e.t] := rfl
  have e4 : ((evL e ++ q).drop 67).take 8 = wordL e.a := rfl
  have e5 : ((evL e ++ q).drop 75).take 8 = wordL e.r := rfl
  have e6 : ((evL e ++ q).drop 83).take 8 = wordL e.f := rfl
  have n1 : ∀ x : Int, numL [x] = x := fun x => by simp [numL]
  rw [e0, e1, e2, e9, e3, e8, e4, e5, e6, n1, n1, n1, numL_word _ hv.s.1 hv.s.2, ofL_vecL _ hv.d, numL_word _ hv.n.1 hv.n.2, numL_word e.a a1 (by omega), numL_word _ hv.r.1 hv.r.2, numL_word _ hv.f.1 hv.f.2]
  have : IntKind.i64.wrap e.a = e.a := by rw [IntKind.wrap_i64]; omega
  rw [this]
/-- A vector that may not be is no event's. -/
theorem emayB_deps {e : Ev} (h : emayB e = true) : vmayB e.d = true := by
  unfold emayB at h
  simp only [Bool.and_eq_true] at h
  obtain ⟨hp, _⟩ := h
  unfold placeB at hp
  simp only [Bool.and_eq_true] at hp
  have hb := hp.2
  unfold belowMax at hb
  unfold vmayB
  rw [decide_eq_true_eq] at hb ⊢
  omega
end Go.Proofs.Ytgannlbhhanflaa
