/-
  What events' bytes and numbers say of each other: plain.
-/
import Derived.Test.YtgannlbhhanflaaEkP
import Derived.Test.YtgannlbhhanflaaEt
namespace Go.Proofs.Ytgannlbhhanflaa
set_option linter.unusedVariables false
set_option linter.unusedSimpArgs false
open Go.RowKit

theorem evL_inj {a b : Ev} (oa : a.ok) (ob : b.ok) (ma : May a) (mb : May b) (h : evL a = evL b) : a = b := by
  have h1 := readAt_evL oa ma [] []
  have h2 := readAt_evL ob mb [] []
  rw [h] at h1
  exact h1.symm.trans h2
theorem idE_eq {a b : Ev} (ma : May a) (mb : May b) : (idE a == idE b) = (decide (a.o = b.o) && decide (a.s = b.s)) := by
  have h : ∀ e : Ev, May e → idE e = e.o * 1099511627776 + e.s := fun e m => by
    have hr : regE e.o = true := by simp [regE, m.o1, m.o2]
    unfold idE; rw [hr, if_pos rfl]
    have := m.o1; have := m.o2; have := m.s1; have := m.s2
    omega
  rw [h a ma, h b mb]
  have := ma.s1; have := ma.s2; have := mb.s1; have := mb.s2
  rw [Bool.eq_iff_iff]
  simp only [beq_iff_eq, Bool.and_eq_true, decide_eq_true_eq]
  constructor
  · intro h; constructor <;> omega
  · rintro ⟨h1, h2⟩; rw [h1, h2]
theorem str_toList {l m : List Int} (hl : ∀ c ∈ l, 0 ≤ c ∧ c ≤ 255) (hm : ∀ c ∈ m, 0 ≤ c ∧ c ≤ 255) : ((strOfNums l).toList == (strOfNums m).toList) = decide (l = m) := by
  by_cases h : l = m
  · subst h; simp
  · rw [decide_eq_false h, beq_eq_false_iff_ne]
    intro e
    rw [ByteArray.toList_eq, ByteArray.toList_eq] at e
    exact h (str_inj hl hm (ByteArray.ext (Array.toList_inj.1 e)))
theorem put_str_eq {a b : Ev} (oa : a.ok) (ob : b.ok) (ma : emayB a = true) (mb : emayB b = true) : ((strOfNums (putE a)).toList == (strOfNums (putE b)).toList) = decide (a = b) := by
  rw [str_toList (putE_range a) (putE_range b), putE_yes ma, putE_yes mb, decide_eq_decide]
  exact ⟨evL_inj oa ob (may_of ma) (may_of mb), fun h => by rw [h]⟩
end Go.Proofs.Ytgannlbhhanflaa
