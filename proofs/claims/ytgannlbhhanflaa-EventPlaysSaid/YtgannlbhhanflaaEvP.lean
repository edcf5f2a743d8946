/-
  What an event is as cells, and which may be: plain. No program here.
-/
import Derived.Test.YtgannlbhhanflaaBytP
namespace Go.Proofs.Ytgannlbhhanflaa
set_option linter.unusedVariables false
set_option linter.unusedSimpArgs false
open Go.RowKit

/-- An event: origin, number, what was known, kind, node, to, amount, request, of. -/
structure Ev where
  o : Int
  s : Int
  d : Vec
  k : Int
  n : Int
  t : Int
  a : Int
  r : Int
  f : Int
namespace Ev
theorem ext {x y : Ev} (h0 : x.o = y.o) (h1 : x.s = y.s) (h2 : x.d = y.d) (h3 : x.k = y.k) (h4 : x.n = y.n) (h5 : x.t = y.t) (h6 : x.a = y.a) (h7 : x.r = y.r) (h8 : x.f = y.f) : x = y := by
  cases x; cases y; simp_all
instance : DecidableEq Ev := fun x y =>
  decidable_of_iff (x.o = y.o ∧ x.s = y.s ∧ x.d = y.d ∧ x.k = y.k ∧ x.n = y.n ∧ x.t = y.t ∧ x.a = y.a ∧ x.r = y.r ∧ x.f = y.f)
    ⟨fun ⟨h0, h1, h2, h3, h4, h5, h6, h7, h8⟩ => ext h0 h1 h2 h3 h4 h5 h6 h7 h8, fun h => by subst h; simp⟩
def zero : Ev := ⟨0, 0, Vec.zero, 0, 0, 0, 0, 0, 0⟩
/-- The numbers are numbers of their kinds. -/
structure ok (e : Ev) : Prop where
  o : -9223372036854775808 ≤ e.o ∧ e.o ≤ 9223372036854775807
  s : 0 ≤ e.s ∧ e.s ≤ 18446744073709551615
  d : e.d.ok
  k : 0 ≤ e.k ∧ e.k ≤ 255
  n : 0 ≤ e.n ∧ e.n ≤ 18446744073709551615
  t : -9223372036854775808 ≤ e.t ∧ e.t ≤ 9223372036854775807
  a : -9223372036854775808 ≤ e.a ∧ e.a ≤ 9223372036854775807
  r : 0 ≤ e.r ∧ e.r ≤ 18446744073709551615
  f : 0 ≤ e.f ∧ e.f ≤ 18446744073709551615
/-- An event with nothing but its place and kind. -/
def bare (e : Ev) : Ev := ⟨e.o, e.s, e.d, e.k, 0, 0, 0, 0, 0⟩
end Ev
def evA (e : Ev) : Array Value := #[Value.int .i64 e.o, .int .u64 e.s, .int .u64 e.d.v0, .int .u64 e.d.v1, .int .u64 e.d.v2, .int .u64 e.d.v3, .int .u64 e.d.v4, .int .u64 e.d.v5, .int .u8 e.k, .int .u64 e.n, .int .i64 e.t, .int .i64 e.a, .int .u64 e.r, .int .u64 e.f]
theorem evA_size (e : Ev) : (evA e).size = 14 := rfl
theorem evA_toList (e : Ev) : (evA e).toList = [.int .i64 e.o, .int .u64 e.s, .int .u64 e.d.v0, .int .u64 e.d.v1, .int .u64 e.d.v2, .int .u64 e.d.v3, .int .u64 e.d.v4, .int .u64 e.d.v5, .int .u8 e.k, .int .u64 e.n, .int .i64 e.t, .int .i64 e.a, .int .u64 e.r, .int .u64 e.f] := rfl
theorem evA_0 (e : Ev) : (evA e)[0]? = some (.int .i64 e.o) := rfl
theorem evA_1 (e : Ev) : (evA e)[1]? = some (.int .u64 e.s) := rfl
theorem evA_2 (e : Ev) : (evA e)[2]? = some (.int .u64 e.d.v0) := rfl
theorem evA_3 (e : Ev) : (evA e)[3]? = some (.int .u64 e.d.v1) := rfl
theorem evA_4 (e : Ev) : (evA e)[4]? = some (.int .u64 e.d.v2) := rfl
theorem evA_5 (e : Ev) : (evA e)[5]? = some (.int .u64 e.d.v3) := rfl
theorem evA_6 (e : Ev) : (evA e)[6]? = some (.int .u64 e.d.v4) := rfl
theorem evA_7 (e : Ev) : (evA e)[7]? = some (.int .u64 e.d.v5) := rfl
theorem evA_8 (e : Ev) : (evA e)[8]? = some (.int .u8 e.k) := rfl
theorem evA_9 (e : Ev) : (evA e)[9]? = some (.int .u64 e.n) := rfl
theorem evA_10 (e : Ev) : (evA e)[10]? = some (.int .i64 e.t) := rfl
theorem evA_11 (e : Ev) : (evA e)[11]? = some (.int .i64 e.a) := rfl
theorem evA_12 (e : Ev) : (evA e)[12]? = some (.int .u64 e.r) := rfl
theorem evA_13 (e : Ev) : (evA e)[13]? = some (.int .u64 e.f) := rfl
theorem evA_mk (x0 x1 x2 x3 x4 x5 x6 x7 x8 x9 x10 x11 x12 x13 : Int) : #[Value.int .i64 x0, .int .u64 x1, .int .u64 x2, .int .u64 x3, .int .u64 x4, .int .u64 x5, .int .u64 x6, .int .u64 x7, .int .u8 x8, .int .u64 x9, .int .i64 x10, .int .i64 x11, .int .u64 x12, .int .u64 x13] = evA ⟨x0, x1, ⟨x2, x3, x4, x5, x6, x7⟩, x8, x9, x10, x11, x12, x13⟩ := rfl
theorem ev_eta (e : Ev) : (⟨e.o, e.s, e.d, e.k, e.n, e.t, e.a, e.r, e.f⟩ : Ev) = e := rfl
theorem evA_set0 (e : Ev) (x : Int) : (evA e).setIfInBounds 0 (.int .i64 x) = evA ⟨x, e.s, e.d, e.k, e.n, e.t, e.a, e.r, e.f⟩ := rfl
theorem evA_set1 (e : Ev) (x : Int) : (evA e).setIfInBounds 1 (.int .u64 x) = evA ⟨e.o, x, e.d, e.k, e.n, e.t, e.a, e.r, e.f⟩ := rfl
theorem evA_set2 (e : Ev) (x : Int) : (evA e).setIfInBounds 2 (.int .u64 x) = evA ⟨e.o, e.s, ⟨x, e.d.v1, e.d.v2, e.d.v3, e.d.v4, e.d.v5⟩, e.k, e.n, e.t, e.a, e.r, e.f⟩ := rfl
theorem evA_set3 (e : Ev) (x : Int) : (evA e).setIfInBounds 3 (.int .u64 x) = evA ⟨e.o, e.s, ⟨e.d.v0, x, e.d.v2, e.d.v3, e.d.v4, e.d.v5⟩, e.k, e.n, e.t, e.a, e.r, e.f⟩ := rfl
theorem evA_set4 (e : Ev) (x : Int) : (evA e).setIfInBounds 4 (.int .u64 x) = evA ⟨e.o, e.s, ⟨e.d.v0, e.d.v1, x, e.d.v3, e.d.v4, e.d.v5⟩, e.k, e.n, e.t, e.a, e.r, e.f⟩ := rfl
theorem evA_set5 (e : Ev) (x : Int) : (evA e).setIfInBounds 5 (.int .u64 x) = evA ⟨e.o, e.s, ⟨e.d.v0, e.d.v1, e.d.v2, x, e.d.v4, e.d.v5⟩, e.k, e.n, e.t, e.a, e.r, e.f⟩ := rfl
theorem evA_set6 (e : Ev) (x : Int) : (evA e).setIfInBounds 6 (.int .u64 x) = evA ⟨e.o, e.s, ⟨e.d.v0, e.d.v1, e.d.v2, e.d.v3, x, e.d.v5⟩, e.k, e.n, e.t, e.a, e.r, e.f⟩ := rfl
theorem evA_set7 (e : Ev) (x : Int) : (evA e).setIfInBounds 7 (.int .u64 x) = evA ⟨e.o, e.s, ⟨e.d.v0, e.d.v1, e.d.v2, e.d.v3, e.d.v4, x⟩, e.k, e.n, e.t, e.a, e.r, e.f⟩ := rfl
theorem evA_set8 (e : Ev) (x : Int) : (evA e).setIfInBounds 8 (.int .u8 x) = evA ⟨e.o, e.s, e.d, x, e.n, e.t, e.a, e.r, e.f⟩ := rfl
theorem evA_set9 (e : Ev) (x : Int) : (evA e).setIfInBounds 9 (.int .u64 x) = evA ⟨e.o, e.s, e.d, e.k, x, e.t, e.a, e.r, e.f⟩ := rfl
theorem evA_set10 (e : Ev) (x : Int) : (evA e).setIfInBounds 10 (.int .i64 x) = evA ⟨e.o, e.s, e.d, e.k, e.n, x, e.a, e.r, e.f⟩ := rfl
theorem evA_set11 (e : Ev) (x : Int) : (evA e).setIfInBounds 11 (.int .i64 x) = evA ⟨e.o, e.s, e.d, e.k, e.n, e.t, x, e.r, e.f⟩ := rfl
theorem evA_set12 (e : Ev) (x : Int) : (evA e).setIfInBounds 12 (.int .u64 x) = evA ⟨e.o, e.s, e.d, e.k, e.n, e.t, e.a, x, e.f⟩ := rfl
theorem evA_set13 (e : Ev) (x : Int) : (evA e).setIfInBounds 13 (.int .u64 x) = evA ⟨e.o, e.s, e.d, e.k, e.n, e.t, e.a, e.r, x⟩ := rfl
theorem evA_ne_nil (e : Ev) : (evA e = #[]) = False := by simp [evA]
theorem ev_zero : (⟨0, 0, Vec.zero, 0, 0, 0, 0, 0, 0⟩ : Ev) = Ev.zero := rfl
attribute [go_sem] evA_size evA_toList evA_mk ev_eta ev_zero evA_ne_nil evA_0 evA_1 evA_2 evA_3 evA_4 evA_5 evA_6 evA_7 evA_8 evA_9 evA_10 evA_11 evA_12 evA_13 evA_set0 evA_set1 evA_set2 evA_set3 evA_set4 evA_set5 evA_set6 evA_set7 evA_set8 evA_set9 evA_set10 evA_set11 evA_set12 evA_set13
@[go_sem] theorem evzero_o : Ev.zero.o = 0 := rfl
@[go_sem] theorem evzero_s : Ev.zero.s = 0 := rfl
@[go_sem] theorem evzero_d : Ev.zero.d = Vec.zero := rfl
@[go_sem] theorem evzero_k : Ev.zero.k = 0 := rfl
@[go_sem] theorem evzero_n : Ev.zero.n = 0 := rfl
@[go_sem] theorem evzero_t : Ev.zero.t = 0 := rfl
@[go_sem] theorem evzero_a : Ev.zero.a = 0 := rfl
@[go_sem] theorem evzero_r : Ev.zero.r = 0 := rfl
@[go_sem] theorem evzero_f : Ev.zero.f = 0 := rfl

/-- Is a number a region's? -/
def regE (k : Int) : Bool := decide (1 ≤ k) && decide (k ≤ 6)
theorem regE_yes (k : Nat) (h : k < 6) : regE ((k : Int) + 1) = true := by simp [regE]; omega
theorem regE_out {o : Int} (h : regE o = true) : ∃ k : Nat, k < 6 ∧ o = (k : Int) + 1 := by
  simp [regE] at h
  exact ⟨(o - 1).toNat, by omega, by omega⟩
/-- Are all numbers below the greatest? -/
def belowMax (v : Vec) : Bool := decide (v.v0 < 1099511627776 ∧ v.v1 < 1099511627776 ∧ v.v2 < 1099511627776 ∧ v.v3 < 1099511627776 ∧ v.v4 < 1099511627776 ∧ v.v5 < 1099511627776)
theorem belowMax_iff {v : Vec} : belowMax v = true ↔ ∀ k, k < 6 → v.get k < 1099511627776 := by
  unfold belowMax
  rw [decide_eq_true_eq]
  exact ⟨fun ⟨h0, h1, h2, h3, h4, h5⟩ => Vec.six (P := fun k => v.get k < 1099511627776) h0 h1 h2 h3 h4 h5,
    fun h => ⟨h 0 (by omega), h 1 (by omega), h 2 (by omega), h 3 (by omega), h 4 (by omega), h 5 (by omega)⟩⟩
/-- Its place: origin and number. -/
def placeB (e : Ev) : Bool := regE e.o && decide (1 ≤ e.s) && decide (e.s < 1099511627776) && decide (e.d.get (e.o - 1).toNat = e.s - 1) && belowMax e.d
/-- What the kind has. -/
def amountB (least : Int) (e : Ev) : Bool := decide (least ≤ e.a) && decide (e.a ≤ 1125899906842624)
def toB (e : Ev) : Bool := regE e.t && decide (e.t ≠ e.o)
/-- What is left when all is taken away that the kind has; and: may those be? -/
def leftE (e : Ev) : Ev :=
  if e.k = 1 ∨ e.k = 2 then { e with n := 0, a := 0 } else if e.k = 3 then { e with n := 0, a := 0, r := 0 } else if e.k = 4 then { e with r := 0, f := 0 } else if e.k = 5 then { e with n := 0, a := 0, t := 0 } else if e.k = 6 then { e with t := 0 } else e
def fieldsB (e : Ev) : Bool :=
  if e.k = 1 then amountB 0 e else if e.k = 2 then amountB 1 e else if e.k = 3 then amountB 1 e && decide (1 ≤ e.r) else if e.k = 4 then decide (1 ≤ e.r) && decide (1 ≤ e.f) && decide (e.r ≠ e.f) else if e.k = 5 then amountB 1 e && toB e else if e.k = 6 then toB e else decide (e.k = 7)
/-- An event with nothing but what its kind has. -/
def ownE (e : Ev) : Ev :=
  if e.k = 1 ∨ e.k = 2 then { e.bare with n := e.n, a := e.a } else if e.k = 3 then { e.bare with n := e.n, a := e.a, r := e.r } else if e.k = 4 then { e.bare with r := e.r, f := e.f } else if e.k = 5 then { e.bare with n := e.n, a := e.a, t := e.t } else if e.k = 6 then { e.bare with t := e.t } else e.bare
/-- May an event be? -/
def emayB (e : Ev) : Bool := placeB e && (fieldsB e && decide (leftE e = e.bare))
theorem left_own (e : Ev) : (leftE e = e.bare) ↔ (e = ownE e) := by
  obtain ⟨o, s, d, k, n, t, a, r, f⟩ := e
  unfold leftE ownE Ev.bare
  simp only
  split
  · simp only [Ev.mk.injEq, true_and, and_true]
  · split
    · simp only [Ev.mk.injEq, true_and, and_true]
    · split
      · simp only [Ev.mk.injEq, true_and, and_true]
      · split
        · simp only [Ev.mk.injEq, true_and, and_true]
        · split
          · simp only [Ev.mk.injEq, true_and, and_true]
          · exact Iff.rfl
theorem emayB_own (e : Ev) : emayB e = (placeB e && (decide (e = ownE e) && fieldsB e)) := by
  unfold emayB
  have : decide (leftE e = e.bare) = decide (e = ownE e) := by rw [decide_eq_decide]; exact left_own e
  rw [this, Bool.and_comm (fieldsB e)]
end Go.Proofs.Ytgannlbhhanflaa
