/-
  The walks of the laws of chapter 08: Take everywhere, works.
-/
import Derived.Test.YtgannlbhhanflaaEk2
namespace Go.Proofs.Ytgannlbhhanflaa
set_option linter.unusedVariables false
set_option linter.unusedSimpArgs false
open Go.RowKit

theorem etake (A : Option Addr) (cap : Nat) (l : List Int) (B : Nat) (at_ : Int) (w : World) (hL : BRows w B A l) (hB : B ≤ w.heap.size) (hn : l.length ≤ cap) (hm : cap ≤ maxLen) (hby : ∀ c ∈ l, 0 ≤ c ∧ c ≤ 255) (a0 : -9223372036854775808 ≤ at_) (a1 : at_ ≤ 9223372036854775807) :
    Calls Try.prog 30 #[.slice A l.length cap, .int .i64 at_] w (GivesT (takeE l at_) w) := by
  by_cases h : at_ < 0 ∨ (l.length : Int) < at_
  · rw [takeE_out h]
    exact etake_out A l.length cap at_ w hn hm a0 a1 h
  · obtain ⟨m, rfl⟩ : ∃ m : Nat, at_ = m := ⟨at_.toNat, by omega⟩
    by_cases hs : l.length < m + 91
    · rw [takeE_short (by omega) (by omega) (by omega)]
      exact etake_short A l.length cap m w hn hm (by omega) hs
    · obtain ⟨b, o, rfl, hlt, hc⟩ := hL (by rintro rfl; simp at hs)
      exact etake_in b o cap l m w hc (by omega) hn hm hby (by omega)
/-- A slice of bytes as a string, one operation of a walk. -/
theorem wpList_conv {ops : Array Oper} {rest : List Oper} {o : Oper} {a : Act} {Q : Exit → Act → World → Prop} (w : World) (hw : Region.wanted o (yielded ops a.tmps) = true) (x : Operand) (ho : o.op = .convert 43 9 x) (z : Value) (hx : a.eval x = z) (l : List Int) (hz : BytesIs l z w)
    (h : wpList Try.prog ops Q rest (a.put o.dst (.string (strOfNums l))) w) : wpList Try.prog ops Q (o :: rest) a w := by
  have hr := run_conv_bytes 43 5 9 Try.underlying43 Try.underlying5 Try.underlying9 hz
  unfold wpList
  rw [if_pos hw]
  refine .inl ?_
  unfold Oper.wp execOp
  rw [ho]
  simp only [hx]
  simp [hr]
  exact h
def ex8 : Ev := ⟨1, 1, Vec.zero, 1, 0, 0, 5, 0, 0⟩
def ex8x : Ev := ⟨1, 1, Vec.zero, 1, 0, 0, 5, 1, 0⟩
theorem ex8_ok : ex8.ok := ⟨by decide, by decide, Vec.ok_zero, by decide, by decide, by decide, by decide, by decide, by decide⟩
theorem ex8x_ok : ex8x.ok := ⟨by decide, by decide, Vec.ok_zero, by decide, by decide, by decide, by decide, by decide, by decide⟩
theorem ex8_may : emayB ex8 = true := by decide +kernel
theorem ex8x_may : emayB ex8x = false := by decide +kernel
theorem ex8_take : takeE (evL ex8) 0 = (ex8, 91, 0) := by decide +kernel
theorem ex8_id : idE ex8 = 1099511627777 := by decide +kernel
theorem ex8_str : strOfNums ((evL ex8).take 9) = ⟨#[1, 0, 0, 0, 0, 0, 0, 0, 1]⟩ := by decide +kernel
end Go.Proofs.Ytgannlbhhanflaa
