/-
  An event's bytes with one turned: plain.
-/
import Derived.Test.YtgannlbhhanflaaEkP
import Derived.Laws.BitsAllLaws
namespace Go.Proofs.Ytgannlbhhanflaa
set_option linter.unusedVariables false
set_option linter.unusedSimpArgs false
open Go.RowKit

theorem xor_u8 (x y : Int) (h1 : 0 ≤ x) (h2 : x ≤ 255) (h3 : 0 ≤ y) (h4 : y ≤ 255) : 0 ≤ bits .xor .u8 x y ∧ bits .xor .u8 x y ≤ 255 ∧ (bits .xor .u8 x y = x ↔ y = 0) := by
  rw [u8_xor x y h1 (by omega) h3 (by omega)]
  have hlt : x.toNat ^^^ y.toNat < 2 ^ 8 := Nat.xor_lt_two_pow (by omega) (by omega)
  refine ⟨by omega, by omega, ⟨fun h => ?_, fun h => ?_⟩⟩
  · have e : x.toNat ^^^ y.toNat = x.toNat := by omega
    have e2 : x.toNat ^^^ (x.toNat ^^^ y.toNat) = 0 := by rw [e, Nat.xor_self]
    rw [← Nat.xor_assoc, Nat.xor_self, Nat.zero_xor] at e2
    omega
  · subst h
    simp
    omega
/-- The bytes with one turned. -/
def turnL (M : List Int) (k : Nat) (by_ : Int) : List Int := M.set k (bits .xor .u8 (M.getD k 0) by_)
theorem turnL_facts (M : List Int) (k : Nat) (by_ : Int) (hk : k < M.length) (h : ∀ c ∈ M, 0 ≤ c ∧ c ≤ 255) (h3 : 0 ≤ by_) (h4 : by_ ≤ 255) :
    (turnL M k by_).length = M.length ∧ (∀ c ∈ turnL M k by_, 0 ≤ c ∧ c ≤ 255) ∧ (turnL M k by_ = M ↔ by_ = 0) := by
  have hg : M.getD k 0 = M[k] := by rw [List.getD_eq_getElem?_getD, List.getElem?_eq_getElem hk]; rfl
  have hx := h M[k] (List.getElem_mem hk)
  obtain ⟨a, b, c⟩ := xor_u8 M[k] by_ hx.1 hx.2 h3 h4
  unfold turnL
  rw [hg]
  refine ⟨List.length_set, fun x hxm => ?_, ⟨fun e => ?_, fun e => ?_⟩⟩
  · rcases List.mem_or_eq_of_mem_set hxm with hm | rfl
    · exact h x hm
    · exact ⟨a, b⟩
  · refine c.1 ?_
    have : (M.set k (bits .xor .u8 M[k] by_))[k]? = M[k]? := by rw [e]
    rw [List.getElem?_set_self hk, List.getElem?_eq_getElem hk] at this
    exact Option.some.inj this
  · rw [c.2 e]
    exact List.set_getElem_self hk
/-- What becomes of an event whose bytes are turned. -/
theorem turn_read {e : Ev} (oe : e.ok) (me : emayB e = true) (k : Nat) (hk : k < 91) (by_ : Int) (h3 : 0 ≤ by_) (h4 : by_ ≤ 255) :
    (emayB (readAt (turnL (evL e) k by_) 0) = false → by_ ≠ 0) ∧ (emayB (readAt (turnL (evL e) k by_) 0) = true → evL (readAt (turnL (evL e) k by_) 0) = turnL (evL e) k by_ ∧ (readAt (turnL (evL e) k by_) 0 = e ↔ by_ = 0)) := by
  obtain ⟨f1, f2, f3⟩ := turnL_facts (evL e) k by_ (by rw [evL_length]; exact hk) (evL_range (may_of me)) h3 h4
  have hself : readAt (evL e) 0 = e := by have := readAt_evL oe (may_of me) [] []; simpa using this
  rw [evL_length] at f1
  refine ⟨fun h h0 => ?_, fun h => ?_⟩
  · rw [f3.2 h0, hself, me] at h; cases h
  · have hb := evL_readAt (l := turnL (evL e) k by_) (m := 0) (by omega) f2 h
    rw [List.drop_zero, List.take_of_length_le (by omega)] at hb
    refine ⟨hb, ⟨fun he => ?_, fun h0 => ?_⟩⟩
    · rw [he] at hb; exact f3.1 hb.symm
    · rw [f3.2 h0]; exact hself
end Go.Proofs.Ytgannlbhhanflaa
