/-
  Plain law: events that regions made, and what regions know of them. No program here.
  Plain law: events that regions made, put into a hold in any order and taken as they get ready, come all. No program here.
-/
import Derived.Test.YtgbbhkdaalnchaaSoP
import Derived.Test.YtgbbhkdaalnchaaHmE
namespace Go.Proofs.Ytgbbhkdaalnchaa
set_option linter.unusedVariables false
set_option linter.unusedSimpArgs false
open Go.RowKit Go

/-- How many events of region r + 1 there are. -/
def cntO (r : Nat) (l : List Ev) : Nat := (l.filter fun e => e.o == (r : Int) + 1).length
theorem cntO_nil (r : Nat) : cntO r [] = 0 := rfl
theorem cntO_append (r : Nat) (l m : List Ev) : cntO r (l ++ m) = cntO r l + cntO r m := by simp [cntO]
theorem cntO_one_same {r : Nat} {e : Ev} (h : e.o = (r : Int) + 1) : cntO r [e] = 1 := by simp [cntO, h]
theorem cntO_one_other {r : Nat} {e : Ev} (h : e.o ≠ (r : Int) + 1) : cntO r [e] = 0 := by simp [cntO, h]
theorem cntO_le (r : Nat) (l : List Ev) : cntO r l ≤ l.length := List.length_filter_le _ _
theorem cntO_take (r i : Nat) (l : List Ev) : cntO r (l.take i) ≤ cntO r l := by
  have : l = l.take i ++ l.drop i := (List.take_append_drop i l).symm
  calc cntO r (l.take i) ≤ cntO r (l.take i) + cntO r (l.drop i) := Nat.le_add_right _ _
    _ = cntO r l := by rw [← cntO_append, List.take_append_drop]
theorem cntO_at {r i : Nat} {l : List Ev} {e : Ev} (hi : l[i]? = some e) (he : e.o = (r : Int) + 1) : cntO r (l.take i) + 1 ≤ cntO r l := by
  have h1 : l.take (i + 1) = l.take i ++ [e] := by rw [List.take_add_one, hi]; rfl
  have h2 := cntO_take r (i + 1) l
  rw [h1, cntO_append, cntO_one_same he] at h2
  exact h2
/-- Each event may be, is the next one of its origin, and leans on those ahead of it alone. -/
def Made (all : List Ev) : Prop := ∀ i e, all[i]? = some e → e.ok ∧ emayB e = true ∧ ∃ k : Nat, k < 6 ∧ e.o = (k : Int) + 1 ∧ e.s = (cntO k (all.take i) : Int) + 1 ∧ ∀ r, r < 6 → e.d.get r ≤ (cntO r (all.take i) : Int)
/-- What is known is of these events. -/
def Fits (all : List Ev) (kn : Vec) : Prop := ∀ r, r < 6 → 0 ≤ kn.get r ∧ kn.get r ≤ (cntO r all : Int)
theorem made_nil : Made [] := fun i e h => by simp at h
theorem fits_zero (all : List Ev) : Fits all Vec.zero := fun r _ => by rw [Vec.get_zero]; omega
theorem Fits.ok {all : List Ev} {kn : Vec} (h : Fits all kn) (hl : all.length ≤ 1000) : kn.ok ∧ ∀ r, r < 6 → kn.get r ≤ 1000 := by
  have hb : ∀ r, r < 6 → kn.get r ≤ 1000 := fun r hr => by have := (h r hr).2; have := cntO_le r all; omega
  exact ⟨fun r hr => ⟨(h r hr).1, by have := hb r hr; omega⟩, hb⟩
theorem Fits.more {all : List Ev} {kn : Vec} (h : Fits all kn) (e : Ev) : Fits (all ++ [e]) kn := fun r hr => by
  have := h r hr
  rw [cntO_append]
  omega
/-- An event of them that is ready is taken: what is known then. -/
theorem Fits.step {all : List Ev} {kn : Vec} {e : Ev} {k : Nat} (h : Fits all kn) (hM : Made all) (he : e ∈ all) (hr : readyB kn e = true) (hk : k < 6) (hek : e.o = (k : Int) + 1) : Fits all (kn.set k (kn.get k + 1)) := fun r hr6 => by
  obtain ⟨k', hk', hek', _, _, hks, _, _⟩ := ready_facts hr
  obtain rfl : k' = k := by omega
  rw [Vec.get_set _ _ _ _ hk hr6]
  split
  · rename_i e1; subst e1
    obtain ⟨i, hi, e2⟩ := List.getElem_of_mem he
    obtain ⟨_, _, k2, _, h3, h4, _⟩ := hM i e (by rw [List.getElem?_eq_getElem hi, e2])
    obtain rfl : k2 = r := by omega
    have := cntO_at (l := all) (i := i) (by rw [List.getElem?_eq_getElem hi, e2]) h3
    have := (h k2 hk).1
    omega
  · exact h r hr6
/-- A new event, of what its region knows. -/
theorem Made.add {all : List Ev} {kn : Vec} {e : Ev} {k : Nat} (h : Made all) (hf : Fits all kn) (ho : e.ok) (hm : emayB e = true) (hk : k < 6) (hek : e.o = (k : Int) + 1) (hs : e.s = (cntO k all : Int) + 1) (hd : e.d = kn) : Made (all ++ [e]) := fun i x hi => by
  rcases Nat.lt_or_ge i all.length with hlt | hge
  · rw [List.getElem?_append_left hlt] at hi
    obtain ⟨h1, h2, k', h3, h4, h5, h6⟩ := h i x hi
    rw [List.take_append_of_le_length (by omega)]
    exact ⟨h1, h2, k', h3, h4, h5, h6⟩
  · rw [List.getElem?_append_right hge] at hi
    have : i = all.length := by
      rcases Nat.lt_or_ge 0 (i - all.length) with h0 | h0
      · rw [List.getElem?_eq_none (by simp; omega)] at hi; cases hi
      · omega
    subst this
    simp at hi
    subst hi
    rw [List.take_left]
    exact ⟨ho, hm, k, hk, hek, hs, fun r hr => by rw [hd]; exact (hf r hr).2⟩
/-- All that is known, together. -/
def sumV (v : Vec) : Nat := (v.get 0).toNat + (v.get 1).toNat + (v.get 2).toNat + (v.get 3).toNat + (v.get 4).toNat + (v.get 5).toNat
theorem sumV_zero : sumV Vec.zero = 0 := rfl
theorem sumV_step (v : Vec) (k : Nat) (hk : k < 6) (h : ∀ r, r < 6 → 0 ≤ v.get r) : sumV (v.set k (v.get k + 1)) = sumV v + 1 := by
  have g : ∀ r, r < 6 → ((v.set k (v.get k + 1)).get r).toNat = (v.get r).toNat + if r = k then 1 else 0 := fun r hr => by
    rw [Vec.get_set _ _ _ _ hk hr]
    split
    · rename_i e; subst e; have := h r hr; omega
    · omega
  unfold sumV
  rw [g 0 (by omega), g 1 (by omega), g 2 (by omega), g 3 (by omega), g 4 (by omega), g 5 (by omega)]
  have hk' : k = 0 ∨ k = 1 ∨ k = 2 ∨ k = 3 ∨ k = 4 ∨ k = 5 := by omega
  rcases hk' with rfl | rfl | rfl | rfl | rfl | rfl <;> simp <;> omega
theorem sumV_le {all : List Ev} {kn : Vec} (h : Fits all kn) : sumV kn ≤ 6 * all.length := by
  have g : ∀ r, r < 6 → (kn.get r).toNat ≤ all.length := fun r hr => by have := (h r hr).2; have := cntO_le r all; omega
  have g0 := g 0 (by omega); have g1 := g 1 (by omega); have g2 := g 2 (by omega); have g3 := g 3 (by omega); have g4 := g 4 (by omega); have g5 := g 5 (by omega)
  unfold sumV
  omega
end Go.Proofs.Ytgbbhkdaalnchaa
namespace Go.Proofs.Ytgbbhkdaalnchaa
set_option linter.unusedVariables false
set_option linter.unusedSimpArgs false
open Go.RowKit Go

theorem pickE_min {v : Vec} {M : List Ev} (hn : NdN M) {x : Ev} (hx : x ∈ M) (hr : readyB v x = true) (hmin : ∀ y ∈ M, readyB v y = true → x.o ≤ y.o) : pickE v M = some x := by
  obtain ⟨k, hk, ho, _, _, hs, _, _⟩ := ready_facts hr
  refine pickE_some hk (fun j hj => ?_) ?_
  · cases hp : pickAt v M j with
    | none => rfl
    | some y =>
      unfold pickAt at hp
      obtain ⟨h1, h2⟩ := Option.filter_eq_some_iff.1 hp
      obtain ⟨h3, h4, _⟩ := lookE_some h1
      have := hmin y h3 h2
      omega
  · unfold pickAt
    have := hn.look hx
    rw [ho, show x.s = v.get k + 1 from by omega] at this
    rw [this]
    exact Option.filter_eq_some_iff.2 ⟨rfl, hr⟩
theorem pickE_no {v : Vec} {M : List Ev} (h : ∀ y ∈ M, readyB v y = false) : pickE v M = none := pickE_none fun j _ => by
  cases hp : pickAt v M j with
  | none => rfl
  | some y =>
    unfold pickAt at hp
    obtain ⟨h1, h2⟩ := Option.filter_eq_some_iff.1 hp
    rw [h y (lookE_some h1).1] at h2
    cases h2
theorem pickE_mem {v : Vec} {M : List Ev} {x : Ev} (h : pickE v M = some x) : x ∈ M ∧ readyB v x = true := by
  unfold pickE at h
  obtain ⟨k, _, hk⟩ := List.exists_of_findSome?_eq_some h
  unfold pickAt at hk
  obtain ⟨h1, h2⟩ := Option.filter_eq_some_iff.1 hk
  exact ⟨(lookE_some h1).1, h2⟩
theorem pickE_none_iff {v : Vec} {M : List Ev} (hn : NdN M) (h : pickE v M = none) : ∀ x ∈ M, readyB v x = false := fun x hx => by
  cases hr : readyB v x with
  | false => rfl
  | true =>
    exfalso
    obtain ⟨k, hk, ho, _, _, hs, _, _⟩ := ready_facts hr
    have h1 := List.findSome?_eq_none_iff.1 h k (List.mem_range.2 hk)
    unfold pickAt at h1
    have := hn.look hx
    rw [ho, show x.s = v.get k + 1 from by omega] at this
    rw [this] at h1
    simp [Option.filter, hr] at h1
/-- Events that were made have names of their own. -/
theorem Made.lt_s {all : List Ev} (h : Made all) {i j : Nat} {x y : Ev} (hi : all[i]? = some x) (hj : all[j]? = some y) (hij : i < j) (ho : x.o = y.o) : x.s < y.s := by
  obtain ⟨_, _, k, hk, h1, h2, _⟩ := h i x hi
  obtain ⟨_, _, k2, hk2, h3, h4, _⟩ := h j y hj
  obtain rfl : k2 = k := by omega
  have hx : (all.take j)[i]? = some x := by rw [List.getElem?_take, if_pos hij]; exact hi
  have := cntO_at hx h1
  rw [List.take_take, Nat.min_eq_left (by omega)] at this
  omega
theorem Made.uniq {all : List Ev} (h : Made all) {x y : Ev} (hx : x ∈ all) (hy : y ∈ all) (ho : x.o = y.o) (hs : x.s = y.s) : x = y := by
  obtain ⟨i, hi⟩ := List.getElem?_of_mem hx
  obtain ⟨j, hj⟩ := List.getElem?_of_mem hy
  rcases Nat.lt_trichotomy i j with hl | rfl | hl
  · have := h.lt_s hi hj hl ho; omega
  · rw [hi] at hj; injection hj
  · have := h.lt_s hj hi hl ho.symm; omega
theorem Made.may {all : List Ev} (h : Made all) {x : Ev} (hx : x ∈ all) : x.ok ∧ emayB x = true ∧ ∃ k : Nat, k < 6 ∧ x.o = (k : Int) + 1 ∧ 1 ≤ x.s ∧ x.s ≤ (cntO k all : Int) := by
  obtain ⟨i, hi⟩ := List.getElem?_of_mem hx
  obtain ⟨h1, h2, k, hk, h3, h4, _⟩ := h i x hi
  exact ⟨h1, h2, k, hk, h3, by omega, by have := cntO_at hi h3; omega⟩
theorem nodup_length {α : Type} [DecidableEq α] : ∀ {L : List α} (all : List α), L.Nodup → (∀ e ∈ L, e ∈ all) → L.length ≤ all.length
  | [], _, _, _ => Nat.zero_le _
  | e :: L, all, hn, hs => by
    obtain ⟨h1, h2⟩ := List.nodup_cons.1 hn
    have he := hs e (by simp)
    have := nodup_length (all.erase e) h2 fun x hx => (List.mem_erase_of_ne (fun e1 => h1 (by rw [← e1]; exact hx))).2 (hs x (by simp [hx]))
    rw [List.length_erase_of_mem he] at this
    have hp : 0 < all.length := List.length_pos_of_mem he
    simp only [List.length_cons]
    omega
/-- So many have names of their own. -/
theorem ndn_length {all L : List Ev} (hn : NdN L) (hs : ∀ e ∈ L, e ∈ all) : L.length ≤ all.length := by
  have hnd : L.Nodup := hn.imp fun {x y} h e => h ⟨by rw [e], by rw [e]⟩
  exact nodup_length all hnd hs
theorem late_may {v : Vec} {e : Ev} {k : Nat} (hm : emayB e = true) (ho : e.o = (k : Int) + 1) : lateB v e = decide (e.s ≤ v.get k) := by
  unfold lateB
  rw [hm, Bool.true_and, ho, show ((k : Int) + 1 - 1).toNat = k from by omega]
/-- Known in part: as many as stand there. -/
theorem known_upto {all : List Ev} {v : Vec} (hM : Made all) (h0 : ∀ r, r < 6 → 0 ≤ v.get r) : ∀ i, i ≤ all.length → (∀ j, j < i → ∀ e, all[j]? = some e → lateB v e = true) → ∀ r, r < 6 → (cntO r (all.take i) : Int) ≤ v.get r
  | 0, _, _, r, hr => by simpa [cntO_nil] using h0 r hr
  | i + 1, hi, h, r, hr => by
    obtain ⟨e, he⟩ : ∃ e, all[i]? = some e := ⟨all[i], List.getElem?_eq_getElem (by omega)⟩
    have ih := known_upto hM h0 i (by omega) (fun j hj => h j (by omega)) r hr
    rw [List.take_add_one, he, cntO_append]
    obtain ⟨_, hm, k, hk, h3, h4, _⟩ := hM i e he
    by_cases e1 : r = k
    · subst e1
      have hl := h i (by omega) e he
      rw [late_may hm h3] at hl
      have : cntO r [e] = 1 := cntO_one_same h3
      simp only [Option.toList_some] at *
      rw [this]
      have := of_decide_eq_true hl
      omega
    · have : cntO r [e] = 0 := cntO_one_other (by rw [h3]; omega)
      simp only [Option.toList_some]
      rw [this]
      omega
/-- Where all came, and none that waits is ready: all are known. -/
theorem all_known {all L : List Ev} {v : Vec} (hM : Made all) (h0 : ∀ r, r < 6 → 0 ≤ v.get r) (hc : ∀ e ∈ all, lateB v e = true ∨ e ∈ L) (hq : ∀ e ∈ L, readyB v e = false) : ∀ i, i ≤ all.length → ∀ j, j < i → ∀ e, all[j]? = some e → lateB v e = true
  | 0, _, j, hj, _, _ => by omega
  | i + 1, hi, j, hj, e, he => by
    have ih := all_known hM h0 hc hq i (by omega)
    rcases Nat.lt_or_ge j i with hlt | hge
    · exact ih j hlt e he
    · obtain rfl : j = i := by omega
      rcases hc e (List.mem_of_getElem? he) with h | h
      · exact h
      · cases hl : lateB v e with
        | true => rfl
        | false =>
          exfalso
          have hu := known_upto hM h0 j (by omega) ih
          obtain ⟨_, hm, k, hk, h3, h4, h5⟩ := hM j e he
          rw [late_may hm h3] at hl
          have hl := of_decide_eq_false hl
          have h6 := hu k hk
          have hr : readyB v e = true := by
            unfold readyB
            rw [hm, Bool.true_and, h3, show ((k : Int) + 1 - 1).toNat = k from by omega, Bool.and_eq_true]
            refine ⟨decide_eq_true (by omega), ?_⟩
            rw [vlessB_iff]
            intro r hr6
            exact Int.le_trans (h5 r hr6) (hu r hr6)
          rw [hq e h] at hr
          cases hr
/-- Known, or waiting. -/
def Cov (kn : Vec) (L : List Ev) (e : Ev) : Prop := lateB kn e = true ∨ e ∈ L
/-- What is known, what waits: of these events. -/
structure HA (all L : List Ev) (kn : Vec) : Prop where
  fits : Fits all kn
  sub : ∀ e ∈ L, e ∈ all
section
variable {all L L' : List Ev} {kn : Vec}
theorem ha_put (hM : Made all) (hn : NdN L) (h : HA all L kn) (h60 : all.length ≤ 60) {x : Ev} (hx : x ∈ all) :
    (hputR kn L x = 0 ∨ hputR kn L x = 14) ∧ HA all (hputL kn L x) kn ∧ Cov kn (hputL kn L x) x ∧ ∀ e, Cov kn L e → Cov kn (hputL kn L x) e := by
  obtain ⟨_, hm, _⟩ := hM.may hx
  have hlen := ndn_length hn h.sub
  have h64 : ¬ 64 ≤ L.length := by omega
  cases hl : lateB kn x with
  | true =>
    have hr : hputR kn L x = 14 := by simp [hputR, hm, hl]
    rw [hputL, hr, if_neg (by decide)]
    exact ⟨.inr rfl, h, .inl hl, fun _ he => he⟩
  | false =>
    cases hk : lookE L x.o x.s with
    | some y =>
      have hr : hputR kn L x = 14 := by simp [hputR, hm, hl, hk]
      rw [hputL, hr, if_neg (by decide)]
      obtain ⟨h1, h2, h3⟩ := lookE_some hk
      obtain rfl := hM.uniq (h.sub y h1) hx h2 h3
      exact ⟨.inr rfl, h, .inr h1, fun _ he => he⟩
    | none =>
      have hr : hputR kn L x = 0 := by simp [hputR, hm, hl, hk, h64]
      rw [hputL, hr, if_pos rfl]
      refine ⟨.inl rfl, ⟨h.fits, fun e he => ?_⟩, .inr (by simp), fun e he => ?_⟩
      · rcases List.mem_append.1 he with he | he
        · exact h.sub e he
        · obtain rfl := List.mem_singleton.1 he; exact hx
      · rcases he with he | he
        · exact .inl he
        · exact .inr (by simp [he])
theorem ha_none (hn : NdN L) (h : HA all L kn) (hr : hnextR kn L = none) (ht : NextTo kn L L') :
    HA all L' kn ∧ (∀ e, Cov kn L e → Cov kn L' e) ∧ (∀ e ∈ L', lateB kn e = false ∧ readyB kn e = false) ∧ L'.length ≤ L.length := by
  unfold NextTo at ht
  rw [hr] at ht
  dsimp only at ht
  have hn2 : NdN (L.filter fun e => !lateB kn e) := hn.sublist List.filter_sublist
  have hp := pickE_none_iff hn2 hr
  refine ⟨⟨h.fits, fun e he => ?_⟩, fun e he => ?_, fun e he => ?_, ?_⟩
  · exact h.sub e (List.mem_filter.1 (ht.mem_iff.2 he)).1
  · rcases he with he | he
    · exact .inl he
    · cases hl : lateB kn e with
      | true => exact .inl hl
      | false => exact .inr (ht.mem_iff.1 (List.mem_filter.2 ⟨he, by simp [hl]⟩))
  · have h1 := ht.mem_iff.2 he
    exact ⟨by simpa using (List.mem_filter.1 h1).2, hp e h1⟩
  · rw [← ht.length_eq]
    exact List.length_filter_le _ _
theorem late_set {v : Vec} {e : Ev} {k : Nat} (hk : k < 6) (hl : lateB v e = true) : lateB (v.set k (v.get k + 1)) e = true := by
  have hm : emayB e = true := by unfold lateB at hl; rw [Bool.and_eq_true] at hl; exact hl.1
  obtain ⟨r, hr, ho, _⟩ := place_yes e (emay_place hm)
  rw [late_may hm ho] at hl ⊢
  have hl := of_decide_eq_true hl
  apply decide_eq_true
  rw [Vec.get_set _ _ _ _ hk hr]
  split
  · rename_i e1; subst e1; omega
  · exact hl
theorem ha_some (hM : Made all) (hn : NdN L) (h : HA all L kn) {y : Ev} (hr : hnextR kn L = some y) (ht : NextTo kn L L') :
    y ∈ all ∧ readyB kn y = true ∧ ∃ k : Nat, k < 6 ∧ y.o = (k : Int) + 1 ∧ HA all L' (kn.set k (kn.get k + 1)) ∧ (∀ e, Cov kn L e → Cov (kn.set k (kn.get k + 1)) L' e) ∧ L'.length < L.length ∧ sumV (kn.set k (kn.get k + 1)) = sumV kn + 1 := by
  unfold NextTo at ht
  rw [hr] at ht
  dsimp only at ht
  obtain ⟨h1, h2⟩ := pickE_mem hr
  have hy := h.sub y (List.mem_filter.1 h1).1
  obtain ⟨k, hk, ho, _, _, hs, _, hm⟩ := ready_facts h2
  refine ⟨hy, h2, k, hk, ho, ⟨h.fits.step hM hy h2 hk ho, fun e he => ?_⟩, fun e he => ?_, ?_, sumV_step kn k hk fun r hr => (h.fits r hr).1⟩
  · exact h.sub e (List.mem_filter.1 (ht.mem_iff.2 (List.mem_cons_of_mem _ he))).1
  · rcases he with he | he
    · exact .inl (late_set hk he)
    · cases hl : lateB kn e with
      | true => exact .inl (late_set hk hl)
      | false =>
        rcases List.mem_cons.1 (ht.mem_iff.1 (List.mem_filter.2 ⟨he, by simp [hl]⟩)) with rfl | h3
        · refine .inl ?_
          rw [late_may hm ho]
          apply decide_eq_true
          rw [Vec.get_set _ _ _ _ hk hk, if_pos rfl]
          omega
        · exact .inr h3
  · have h3 := ht.length_eq
    have h4 := List.length_filter_le (fun e => !lateB kn e) L
    simp only [List.length_cons] at h3
    omega
theorem cntO_cons (r : Nat) (e : Ev) (l : List Ev) : cntO r (e :: l) = cntO r [e] + cntO r l := by rw [← cntO_append]; rfl
theorem cntO_sum : ∀ l : List Ev, (∀ e ∈ l, ∃ k : Nat, k < 6 ∧ e.o = (k : Int) + 1) → cntO 0 l + cntO 1 l + cntO 2 l + cntO 3 l + cntO 4 l + cntO 5 l = l.length
  | [], _ => rfl
  | e :: l, h => by
    have ih := cntO_sum l fun x hx => h x (by simp [hx])
    obtain ⟨k, hk, ho⟩ := h e (by simp)
    have g : ∀ r, cntO r [e] = if r = k then 1 else 0 := fun r => by
      split
      · rename_i e1; subst e1; exact cntO_one_same ho
      · exact cntO_one_other (by rw [ho]; omega)
    rw [cntO_cons 0, cntO_cons 1, cntO_cons 2, cntO_cons 3, cntO_cons 4, cntO_cons 5, g 0, g 1, g 2, g 3, g 4, g 5, List.length_cons]
    have hk' : k = 0 ∨ k = 1 ∨ k = 2 ∨ k = 3 ∨ k = 4 ∨ k = 5 := by omega
    rcases hk' with rfl | rfl | rfl | rfl | rfl | rfl <;> simp <;> omega
/-- In the end all came. -/
theorem ha_end (hM : Made all) (h : HA all L kn) (hq : ∀ e ∈ L, lateB kn e = false ∧ readyB kn e = false) (hc : ∀ e ∈ all, Cov kn L e) : sumV kn = all.length ∧ L = [] := by
  have h0 : ∀ r, r < 6 → 0 ≤ kn.get r := fun r hr => (h.fits r hr).1
  have hall := all_known hM h0 hc (fun e he => (hq e he).2) all.length (Nat.le_refl _)
  have hall' : ∀ e ∈ all, lateB kn e = true := fun e he => by
    obtain ⟨i, hi⟩ := List.getElem?_of_mem he
    exact hall i (List.getElem?_eq_some_iff.1 hi).1 e hi
  constructor
  · have hu := known_upto hM h0 all.length (Nat.le_refl _) hall
    rw [List.take_length] at hu
    have g : ∀ r, r < 6 → (kn.get r).toNat = cntO r all := fun r hr => by
      have h1 := hu r hr
      have h2 := (h.fits r hr).2
      omega
    rw [← cntO_sum all fun e he => by obtain ⟨_, _, k, hk, ho, _⟩ := hM.may he; exact ⟨k, hk, ho⟩]
    unfold sumV
    rw [g 0 (by omega), g 1 (by omega), g 2 (by omega), g 3 (by omega), g 4 (by omega), g 5 (by omega)]
  · refine List.eq_nil_iff_forall_not_mem.2 fun e he => ?_
    have := hall' e (h.sub e he)
    rw [(hq e he).1] at this
    cases this
end
end Go.Proofs.Ytgbbhkdaalnchaa
