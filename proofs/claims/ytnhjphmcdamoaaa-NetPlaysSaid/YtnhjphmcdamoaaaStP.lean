/-
  The steps of leatlaw23's statements, as cells. No program here.
-/
import Derived.Test.YtnhjphmcdamoaaaNtQ
namespace Go.Proofs.Ytnhjphmcdamoaaa
set_option linter.unusedVariables false
set_option linter.unusedSimpArgs false
open Go.RowKit

/-- A step's cells. -/
structure Sc where
  o : Int
  x : Mc
  k : Int
  j : Int
def scA (z : Sc) : Array Value := #[Value.int .u8 z.o, Value.int .u8 z.x.k, Value.int .i64 z.x.f, Value.int .i64 z.x.t, Value.int .u64 z.x.d.v0, Value.int .u64 z.x.d.v1, Value.int .u64 z.x.d.v2, Value.int .u64 z.x.d.v3, Value.int .u64 z.x.d.v4, Value.int .u64 z.x.d.v5, z.x.s, Value.int .u64 z.x.n, Value.int .i64 z.x.a, Value.int .i64 z.k, Value.int .i64 z.j]
theorem scA_size (z : Sc) : (scA z).size = 15 := rfl
theorem scA_0 (z : Sc) : (scA z)[0]? = some (Value.int .u8 z.o) := rfl
theorem scA_1 (z : Sc) : (scA z)[1]? = some (Value.int .u8 z.x.k) := rfl
theorem scA_2 (z : Sc) : (scA z)[2]? = some (Value.int .i64 z.x.f) := rfl
theorem scA_3 (z : Sc) : (scA z)[3]? = some (Value.int .i64 z.x.t) := rfl
theorem scA_4 (z : Sc) : (scA z)[4]? = some (Value.int .u64 z.x.d.v0) := rfl
theorem scA_5 (z : Sc) : (scA z)[5]? = some (Value.int .u64 z.x.d.v1) := rfl
theorem scA_6 (z : Sc) : (scA z)[6]? = some (Value.int .u64 z.x.d.v2) := rfl
theorem scA_7 (z : Sc) : (scA z)[7]? = some (Value.int .u64 z.x.d.v3) := rfl
theorem scA_8 (z : Sc) : (scA z)[8]? = some (Value.int .u64 z.x.d.v4) := rfl
theorem scA_9 (z : Sc) : (scA z)[9]? = some (Value.int .u64 z.x.d.v5) := rfl
theorem scA_10 (z : Sc) : (scA z)[10]? = some (z.x.s) := rfl
theorem scA_11 (z : Sc) : (scA z)[11]? = some (Value.int .u64 z.x.n) := rfl
theorem scA_12 (z : Sc) : (scA z)[12]? = some (Value.int .i64 z.x.a) := rfl
theorem scA_13 (z : Sc) : (scA z)[13]? = some (Value.int .i64 z.k) := rfl
theorem scA_14 (z : Sc) : (scA z)[14]? = some (Value.int .i64 z.j) := rfl
theorem scA_mk (y0 : Int) (y1 : Int) (y2 : Int) (y3 : Int) (y4 : Int) (y5 : Int) (y6 : Int) (y7 : Int) (y8 : Int) (y9 : Int) (y10 : Value) (y11 : Int) (y12 : Int) (y13 : Int) (y14 : Int) : #[Value.int .u8 y0, Value.int .u8 y1, Value.int .i64 y2, Value.int .i64 y3, Value.int .u64 y4, Value.int .u64 y5, Value.int .u64 y6, Value.int .u64 y7, Value.int .u64 y8, Value.int .u64 y9, y10, Value.int .u64 y11, Value.int .i64 y12, Value.int .i64 y13, Value.int .i64 y14] = scA ⟨y0, ⟨y1, y2, y3, ⟨y4, y5, y6, y7, y8, y9⟩, y10, y11, y12⟩, y13, y14⟩ := rfl
theorem scA_ne_nil (z : Sc) : (scA z = #[]) = False := by simp [scA]
attribute [go_sem] scA_size scA_mk scA_ne_nil scA_0 scA_1 scA_2 scA_3 scA_4 scA_5 scA_6 scA_7 scA_8 scA_9 scA_10 scA_11 scA_12 scA_13 scA_14
theorem scA_toList (z : Sc) : (scA z).toList = [Value.int .u8 z.o, Value.int .u8 z.x.k, Value.int .i64 z.x.f, Value.int .i64 z.x.t, Value.int .u64 z.x.d.v0, Value.int .u64 z.x.d.v1, Value.int .u64 z.x.d.v2, Value.int .u64 z.x.d.v3, Value.int .u64 z.x.d.v4, Value.int .u64 z.x.d.v5, z.x.s, Value.int .u64 z.x.n, Value.int .i64 z.x.a, Value.int .i64 z.k, Value.int .i64 z.j] := rfl
attribute [go_sem] scA_toList
theorem scA_set0 (z : Sc) (y : Int) : (scA z).setIfInBounds 0 (.int .u8 y) = scA ⟨y, z.x, z.k, z.j⟩ := rfl
theorem scA_set1 (z : Sc) (y : Int) : (scA z).setIfInBounds 1 (.int .u8 y) = scA ⟨z.o, ⟨y, z.x.f, z.x.t, z.x.d, z.x.s, z.x.n, z.x.a⟩, z.k, z.j⟩ := rfl
theorem scA_set2 (z : Sc) (y : Int) : (scA z).setIfInBounds 2 (.int .i64 y) = scA ⟨z.o, ⟨z.x.k, y, z.x.t, z.x.d, z.x.s, z.x.n, z.x.a⟩, z.k, z.j⟩ := rfl
theorem scA_set3 (z : Sc) (y : Int) : (scA z).setIfInBounds 3 (.int .i64 y) = scA ⟨z.o, ⟨z.x.k, z.x.f, y, z.x.d, z.x.s, z.x.n, z.x.a⟩, z.k, z.j⟩ := rfl
theorem scA_set4 (z : Sc) (y : Int) : (scA z).setIfInBounds 4 (.int .u64 y) = scA ⟨z.o, ⟨z.x.k, z.x.f, z.x.t, ⟨y, z.x.d.v1, z.x.d.v2, z.x.d.v3, z.x.d.v4, z.x.d.v5⟩, z.x.s, z.x.n, z.x.a⟩, z.k, z.j⟩ := rfl
theorem scA_set5 (z : Sc) (y : Int) : (scA z).setIfInBounds 5 (.int .u64 y) = scA ⟨z.o, ⟨z.x.k, z.x.f, z.x.t, ⟨z.x.d.v0, y, z.x.d.v2, z.x.d.v3, z.x.d.v4, z.x.d.v5⟩, z.x.s, z.x.n, z.x.a⟩, z.k, z.j⟩ := rfl
theorem scA_set6 (z : Sc) (y : Int) : (scA z).setIfInBounds 6 (.int .u64 y) = scA ⟨z.o, ⟨z.x.k, z.x.f, z.x.t, ⟨z.x.d.v0, z.x.d.v1, y, z.x.d.v3, z.x.d.v4, z.x.d.v5⟩, z.x.s, z.x.n, z.x.a⟩, z.k, z.j⟩ := rfl
theorem scA_set7 (z : Sc) (y : Int) : (scA z).setIfInBounds 7 (.int .u64 y) = scA ⟨z.o, ⟨z.x.k, z.x.f, z.x.t, ⟨z.x.d.v0, z.x.d.v1, z.x.d.v2, y, z.x.d.v4, z.x.d.v5⟩, z.x.s, z.x.n, z.x.a⟩, z.k, z.j⟩ := rfl
theorem scA_set8 (z : Sc) (y : Int) : (scA z).setIfInBounds 8 (.int .u64 y) = scA ⟨z.o, ⟨z.x.k, z.x.f, z.x.t, ⟨z.x.d.v0, z.x.d.v1, z.x.d.v2, z.x.d.v3, y, z.x.d.v5⟩, z.x.s, z.x.n, z.x.a⟩, z.k, z.j⟩ := rfl
theorem scA_set9 (z : Sc) (y : Int) : (scA z).setIfInBounds 9 (.int .u64 y) = scA ⟨z.o, ⟨z.x.k, z.x.f, z.x.t, ⟨z.x.d.v0, z.x.d.v1, z.x.d.v2, z.x.d.v3, z.x.d.v4, y⟩, z.x.s, z.x.n, z.x.a⟩, z.k, z.j⟩ := rfl
theorem scA_set10 (z : Sc) (y : Value) : (scA z).setIfInBounds 10 y = scA ⟨z.o, ⟨z.x.k, z.x.f, z.x.t, z.x.d, y, z.x.n, z.x.a⟩, z.k, z.j⟩ := rfl
theorem scA_set11 (z : Sc) (y : Int) : (scA z).setIfInBounds 11 (.int .u64 y) = scA ⟨z.o, ⟨z.x.k, z.x.f, z.x.t, z.x.d, z.x.s, y, z.x.a⟩, z.k, z.j⟩ := rfl
theorem scA_set12 (z : Sc) (y : Int) : (scA z).setIfInBounds 12 (.int .i64 y) = scA ⟨z.o, ⟨z.x.k, z.x.f, z.x.t, z.x.d, z.x.s, z.x.n, y⟩, z.k, z.j⟩ := rfl
theorem scA_set13 (z : Sc) (y : Int) : (scA z).setIfInBounds 13 (.int .i64 y) = scA ⟨z.o, z.x, y, z.j⟩ := rfl
theorem scA_set14 (z : Sc) (y : Int) : (scA z).setIfInBounds 14 (.int .i64 y) = scA ⟨z.o, z.x, z.k, y⟩ := rfl
attribute [go_sem] scA_set0 scA_set1 scA_set2 scA_set3 scA_set4 scA_set5 scA_set6 scA_set7 scA_set8 scA_set9 scA_set10 scA_set11 scA_set12 scA_set13 scA_set14
def scells (L : List Sc) : List Value := L.flatMap fun z => (scA z).toList
theorem scells_length (L : List Sc) : (scells L).length = L.length * 15 := by
  induction L with
  | nil => rfl
  | cons v L ih => simp only [scells, List.flatMap_cons, List.length_append, List.length_cons] at ih ⊢; rw [ih]; simp [scA]; omega
theorem scells_get (L : List Sc) (i : Nat) (x : Sc) (h : L[i]? = some x) (j : Nat) (hj : j < 15) : (scells L)[i * 15 + j]? = (scA x)[j]? := by
  induction L generalizing i with
  | nil => simp at h
  | cons u L ih =>
    have hl : ((scA u).toList).length = 15 := rfl
    cases i with
    | zero =>
      simp at h; subst h
      simp only [scells, List.flatMap_cons]
      rw [List.getElem?_append_left (by rw [hl]; omega), Nat.zero_mul, Nat.zero_add, Array.getElem?_toList]
    | succ i =>
      have h' : L[i]? = some x := by simpa using h
      have := ih i h'
      simp only [scells, List.flatMap_cons] at this ⊢
      rw [List.getElem?_append_right (by rw [hl]; omega), hl, show (i + 1) * 15 + j - 15 = i * 15 + j from by omega]
      exact this
/-- Fifteen cells that hold a step. -/
@[reducible] def ScAt (w : World) (b o : Nat) (z : Sc) : Prop :=
  w.cell? ⟨b, o, none⟩ = some (Value.int .u8 z.o) ∧ w.cell? ⟨b, o + 1, none⟩ = some (Value.int .u8 z.x.k) ∧ w.cell? ⟨b, o + 2, none⟩ = some (Value.int .i64 z.x.f) ∧ w.cell? ⟨b, o + 3, none⟩ = some (Value.int .i64 z.x.t) ∧ w.cell? ⟨b, o + 4, none⟩ = some (Value.int .u64 z.x.d.v0) ∧ w.cell? ⟨b, o + 5, none⟩ = some (Value.int .u64 z.x.d.v1) ∧ w.cell? ⟨b, o + 6, none⟩ = some (Value.int .u64 z.x.d.v2) ∧ w.cell? ⟨b, o + 7, none⟩ = some (Value.int .u64 z.x.d.v3) ∧ w.cell? ⟨b, o + 8, none⟩ = some (Value.int .u64 z.x.d.v4) ∧ w.cell? ⟨b, o + 9, none⟩ = some (Value.int .u64 z.x.d.v5) ∧ w.cell? ⟨b, o + 10, none⟩ = some (z.x.s) ∧ w.cell? ⟨b, o + 11, none⟩ = some (Value.int .u64 z.x.n) ∧ w.cell? ⟨b, o + 12, none⟩ = some (Value.int .i64 z.x.a) ∧ w.cell? ⟨b, o + 13, none⟩ = some (Value.int .i64 z.k) ∧ w.cell? ⟨b, o + 14, none⟩ = some (Value.int .i64 z.j)
theorem scAt_of {w : World} {b o : Nat} {z : Sc} (h : ∀ j, j < 15 → w.cell? ⟨b, o + j, none⟩ = (scA z)[j]?) : ScAt w b o z :=
  ⟨h 0 (by omega), h 1 (by omega), h 2 (by omega), h 3 (by omega), h 4 (by omega), h 5 (by omega), h 6 (by omega), h 7 (by omega), h 8 (by omega), h 9 (by omega), h 10 (by omega), h 11 (by omega), h 12 (by omega), h 13 (by omega), h 14 (by omega)⟩
/-- A step: what is done, the message, two numbers. -/
structure Stp where
  o : Int
  m : Ms
  k : Int
  j : Int
/-- The cells hold the step; its message's events lie below all. -/
structure StIs (w : World) (z : Sc) (p : Stp) (A : Option Addr) (c : Nat) : Prop where
  eq : z = ⟨p.o, ⟨p.m.k, p.m.f, p.m.t, p.m.d, .slice A p.m.l.length c, p.m.n, p.m.a⟩, p.k, p.j⟩
  le : p.m.l.length ≤ c
  mx : c ≤ maxLen
  ev : ERows w w.heap.size A p.m.l
  ok : p.m.ok
  o : 0 ≤ p.o ∧ p.o ≤ 255
  k : -9223372036854775808 ≤ p.k ∧ p.k ≤ 9223372036854775807
  j : -9223372036854775808 ≤ p.j ∧ p.j ≤ 9223372036854775807
/-- A slice of steps. -/
structure Steps (w : World) (A : Option Addr) (c : Nat) (P : List Stp) : Prop where
  ex : ∃ Z : List Sc, Z.length = P.length ∧ Rd w w.heap.size 15 A P.length (scells Z) ∧ All2 (fun z p => ∃ A c, StIs w z p A c) Z P
  le : P.length ≤ c
  mx : c ≤ maxLen
theorem Steps.at_ {w w' : World} {A : Option Addr} {c : Nat} {P : List Stp} (h : Steps w A c P) (hb : Below w.heap.size w w') {i : Nat} {p : Stp} (hi : P[i]? = some p) :
    ∃ b o A' c', A = some ⟨b, o, none⟩ ∧ b < w.heap.size ∧ StIs w' ⟨p.o, ⟨p.m.k, p.m.f, p.m.t, p.m.d, .slice A' p.m.l.length c', p.m.n, p.m.a⟩, p.k, p.j⟩ p A' c' ∧ ScAt w' b (o + i * 15) ⟨p.o, ⟨p.m.k, p.m.f, p.m.t, p.m.d, .slice A' p.m.l.length c', p.m.n, p.m.a⟩, p.k, p.j⟩ := by
  obtain ⟨Z, hl, hrd, h2⟩ := h.ex
  have hlt : i < P.length := (List.getElem?_eq_some_iff.1 hi).1
  obtain ⟨z, hz, A', c', hs⟩ := h2.get hi
  have he := hs.eq
  subst he
  obtain ⟨b, o, rfl, hb', hc⟩ := (hrd.below hb).2 (by omega)
  refine ⟨b, o, A', c', rfl, hb', ⟨rfl, hs.le, hs.mx, (hs.ev.below hb).mono hb.size, hs.ok, hs.o, hs.k, hs.j⟩, scAt_of fun j hj => ?_⟩
  have h1 := scells_get Z i _ hz j hj
  obtain ⟨v, hv⟩ : ∃ v, (scA ⟨p.o, ⟨p.m.k, p.m.f, p.m.t, p.m.d, .slice A' p.m.l.length c', p.m.n, p.m.a⟩, p.k, p.j⟩)[j]? = some v := ⟨_, Array.getElem?_eq_getElem (by rw [scA_size]; exact hj)⟩
  rw [hv] at h1 ⊢
  rw [Nat.add_assoc]
  exact hc _ _ h1
end Go.Proofs.Ytnhjphmcdamoaaa
