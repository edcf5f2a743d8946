/-
  The walks of package event: Id, Take.
  What events' bytes and numbers say of each other: plain.
-/
import Derived.Test.YtolfnilickfneaaEp
import Derived.Test.YtolfnilickfneaaGB
namespace Go.Proofs.Ytolfnilickfneaa
set_option linter.unusedVariables false
set_option linter.unusedSimpArgs false
open Go.RowKit

/-- An event's number among all. -/
def idE (e : Ev) : Int := if regE e.o = true then (e.o * 1099511627776 + e.s) % 18446744073709551616 else 0
theorem eid (e : Ev) (hv : e.ok) (w : World) : Calls Try.prog 37 #[.agg (evA e)] w fun r w' => r = .returned (.int .u64 (idE e)) ∧ Below w.heap.size w w' := by
  have hs := hv.s
  cases hr : regE e.o with
  | false =>
    have C1 := Lib.hid (eregion_is e.o false hr)
    have HI := Lib.hid (show idE e = 0 from by unfold idE; rw [hr]; rfl)
    clear hr
    go_enter Try.func37, Try.ntmps37
    go_wp2_with (go_at_call 61; (with_reducible refine (C1.out _).mono ?_); rintro r w1 ⟨rfl, rfl⟩)
    go_ret
    exact ⟨by rw [HI.out]; rfl, (Below.refl _ _).alloc (Nat.le_refl _) _⟩
  | true =>
    have C1 := Lib.hid (eregion_is e.o true hr)
    obtain ⟨k, hk, ho⟩ := regE_out hr
    have HI := Lib.hid (show idE e = e.o * 1099511627776 + e.s ∨ 0 < 1 from .inr (by decide))
    have HI := Lib.hid (show idE e = (e.o * 1099511627776 + e.s) % 18446744073709551616 from by unfold idE; rw [hr]; rfl)
    have o1 : 1 ≤ e.o := by omega
    have o2 : e.o ≤ 6 := by omega
    clear hr ho
    go_enter Try.func37, Try.ntmps37
    go_wp2_with (go_at_call 61; (with_reducible refine (C1.out _).mono ?_); rintro r w1 ⟨rfl, rfl⟩)
    go_ret
    refine ⟨?_, (Below.refl _ _).alloc (Nat.le_refl _) _⟩
    rw [HI.out]
    refine ret_int ?_
    simp only [IntKind.wrap_u64]
    try omega
theorem etk8 {w0 w : World} {g5 g2 b o cap : Nat} {l : List Int} {bs : List (Nat × TypeId × Array Value)} (m : Nat) (T : Trk w0 w ((g5, 3, #[.int .i64 (m : Int)]) :: bs)) (hg : w0.heap.size ≤ g5) (hN : Nes g5 bs)
    (h2 : (g2, 42, #[.slice (some ⟨b, o, none⟩) l.length cap]) ∈ bs) (hc : ∀ i x, l[i]? = some x → w0.cell? ⟨b, o + i, none⟩ = some (.int .u8 x)) (hb : b < w0.heap.size) (hn : l.length ≤ cap) (hm : cap ≤ maxLen) (hby : ∀ c ∈ l, 0 ≤ c ∧ c ≤ 255) (h : m + 8 ≤ l.length) :
    Calls Try.prog 57 #[.int .i64 8, .pointer (some ⟨g2, 0, none⟩), .pointer (some ⟨g5, 0, none⟩)] w fun r w' => r = .returned (.int .u64 (numL ((l.drop m).take 8))) ∧ Trk w0 w' ((g5, 3, #[.int .i64 ((m + 8 : Nat) : Int)]) :: bs) := by
  have C1 := Lib.hid (otake8 b o cap l m w (fun i x hx => (T.below.cell (p := ⟨b, o + i, none⟩) (by show b < _; omega)).trans (hc i x hx)) hn hm hby h)
  obtain ⟨q5, f5, -⟩ := T.rules
  have l5 := T.lt
  obtain ⟨q2, -⟩ := (T.blk _ _ _ (List.mem_cons_of_mem _ h2)).rules
  have l2 := (T.blk _ _ _ (List.mem_cons_of_mem _ h2)).lt
  have HS := Lib.hid (show ((m : Int) + 8) = ((m + 8 : Nat) : Int) from by omega)
  clear hc hby h2
  go_enter Try.func57, Try.ntmps57
  go_wp2_with fail
  refine C1.out.mono ?_
  rintro r w1 ⟨rfl, rfl⟩
  go_wp2_with fail
  go_ret
  refine ⟨rfl, ?_⟩
  rw [← HS.out]
  exact T.set_ hg hN 0 _
theorem etk1 {w0 w : World} {g5 g2 b o cap : Nat} {l : List Int} {bs : List (Nat × TypeId × Array Value)} (m : Nat) (T : Trk w0 w ((g5, 3, #[.int .i64 (m : Int)]) :: bs)) (hg : w0.heap.size ≤ g5) (hN : Nes g5 bs)
    (h2 : (g2, 42, #[.slice (some ⟨b, o, none⟩) l.length cap]) ∈ bs) (hc : ∀ i x, l[i]? = some x → w0.cell? ⟨b, o + i, none⟩ = some (.int .u8 x)) (hb : b < w0.heap.size) (hn : l.length ≤ cap) (hm : cap ≤ maxLen) (hby : ∀ c ∈ l, 0 ≤ c ∧ c ≤ 255) (h : m + 1 ≤ l.length) :
    Calls Try.prog 57 #[.int .i64 1, .pointer (some ⟨g2, 0, none⟩), .pointer (some ⟨g5, 0, none⟩)] w fun r w' => r = .returned (.int .u64 (numL ((l.drop m).take 1))) ∧ Trk w0 w' ((g5, 3, #[.int .i64 ((m + 1 : Nat) : Int)]) :: bs) := by
  have C1 := Lib.hid (otake1 b o cap l m w (fun i x hx => (T.below.cell (p := ⟨b, o + i, none⟩) (by show b < _; omega)).trans (hc i x hx)) hn hm hby h)
  obtain ⟨q5, f5, -⟩ := T.rules
  have l5 := T.lt
  obtain ⟨q2, -⟩ := (T.blk _ _ _ (List.mem_cons_of_mem _ h2)).rules
  have l2 := (T.blk _ _ _ (List.mem_cons_of_mem _ h2)).lt
  have HS := Lib.hid (show ((m : Int) + 1) = ((m + 1 : Nat) : Int) from by omega)
  clear hc hby h2
  go_enter Try.func57, Try.ntmps57
  go_wp2_with fail
  refine C1.out.mono ?_
  rintro r w1 ⟨rfl, rfl⟩
  go_wp2_with fail
  go_ret
  refine ⟨rfl, ?_⟩
  rw [← HS.out]
  exact T.set_ hg hN 0 _
end Go.Proofs.Ytolfnilickfneaa
namespace Go.Proofs.Ytolfnilickfneaa
set_option linter.unusedVariables false
set_option linter.unusedSimpArgs false
open Go.RowKit

theorem evL_inj {a b : Ev} (oa : a.ok) (ob : b.ok) (ma : May a) (mb : May b) (h : evL a = evL b) : a = b := by
  have h1 := readAt_evL oa ma [] []
  have h2 := readAt_evL ob mb [] []
  rw [h] at h1
  exact h1.symm.trans h2
theorem idE_eq {a b : Ev} (ma : May a) (mb : May b) : (idE a == idE b) = (decide (a.o = b.o) && decide (a.s = b.s)) := by
  have h : ∀ e : Ev, May e → idE e = e.o * 1099511627776 + e.s := fun e m => by
    have hr : regE e.o = true := by simp [regE, m.o1, m.o2]
    unfold idE; rw [hr, if_pos rfl]
    have := m.o1; have := m.o2; have := m.s1; have := m.s2
    omega
  rw [h a ma, h b mb]
  have := ma.s1; have := ma.s2; have := mb.s1; have := mb.s2
  rw [Bool.eq_iff_iff]
  simp only [beq_iff_eq, Bool.and_eq_true, decide_eq_true_eq]
  constructor
  · intro h; constructor <;> omega
  · rintro ⟨h1, h2⟩; rw [h1, h2]
theorem str_toList {l m : List Int} (hl : ∀ c ∈ l, 0 ≤ c ∧ c ≤ 255) (hm : ∀ c ∈ m, 0 ≤ c ∧ c ≤ 255) : ((strOfNums l).toList == (strOfNums m).toList) = decide (l = m) := by
  by_cases h : l = m
  · subst h; simp
  · rw [decide_eq_false h, beq_eq_false_iff_ne]
    intro e
    rw [ByteArray.toList_eq, ByteArray.toList_eq] at e
    exact h (str_inj hl hm (ByteArray.ext (Array.toList_inj.1 e)))
theorem put_str_eq {a b : Ev} (oa : a.ok) (ob : b.ok) (ma : emayB a = true) (mb : emayB b = true) : ((strOfNums (putE a)).toList == (strOfNums (putE b)).toList) = decide (a = b) := by
  rw [str_toList (putE_range a) (putE_range b), putE_yes ma, putE_yes mb, decide_eq_decide]
  exact ⟨evL_inj oa ob (may_of ma) (may_of mb), fun h => by rw [h]⟩
end Go.Proofs.Ytolfnilickfneaa
