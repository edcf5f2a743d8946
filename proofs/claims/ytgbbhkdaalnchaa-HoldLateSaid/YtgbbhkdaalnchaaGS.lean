/-
  The document's world of regions in memory. No walk here.
  The steps of chapter 15's statements. No function of the program here.
  Rows of events of the call's own: append behind a name. No function of the program here.
-/
import Derived.Test.YtgbbhkdaalnchaaWa
namespace Go.Proofs.Ytgbbhkdaalnchaa
set_option linter.unusedVariables false
set_option linter.unusedSimpArgs false
open Go.RowKit Go Go.BigFrame
set_option maxRecDepth 100000

/-- An act. -/
structure Ac where
  w : Nat
  m : Bool
  o : Nat
  k : Nat
  n : Nat
  t : Nat
  a : Nat
  r : Nat
  f : Nat
def acA (x : Ac) : Array Value := #[.int .u8 x.w, .bool x.m, .int .u8 x.o, .int .u8 x.k, .int .u8 x.n, .int .u8 x.t, .int .u16 x.a, .int .u8 x.r, .int .u8 x.f]
theorem acA_size (x : Ac) : (acA x).size = 9 := rfl
structure Ac.ok (x : Ac) : Prop where
  w : x.w ≤ 255
  o : x.o ≤ 255
  k : x.k ≤ 255
  n : x.n ≤ 255
  t : x.t ≤ 255
  a : x.a ≤ 65535
  r : x.r ≤ 255
  f : x.f ≤ 255
section
variable (x : Ac)
@[go_sem] theorem acA_0 : (acA x)[0]? = some (.int .u8 x.w) := rfl
@[go_sem] theorem acA_1 : (acA x)[1]? = some (.bool x.m) := rfl
@[go_sem] theorem acA_2 : (acA x)[2]? = some (.int .u8 x.o) := rfl
@[go_sem] theorem acA_3 : (acA x)[3]? = some (.int .u8 x.k) := rfl
@[go_sem] theorem acA_4 : (acA x)[4]? = some (.int .u8 x.n) := rfl
@[go_sem] theorem acA_5 : (acA x)[5]? = some (.int .u8 x.t) := rfl
@[go_sem] theorem acA_6 : (acA x)[6]? = some (.int .u16 x.a) := rfl
@[go_sem] theorem acA_7 : (acA x)[7]? = some (.int .u8 x.r) := rfl
@[go_sem] theorem acA_8 : (acA x)[8]? = some (.int .u8 x.f) := rfl
@[go_sem] theorem acA_mk (w o k n t a r f : Nat) (m : Bool) : #[Value.int .u8 w, .bool m, .int .u8 o, .int .u8 k, .int .u8 n, .int .u8 t, .int .u16 a, .int .u8 r, .int .u8 f] = acA ⟨w, m, o, k, n, t, a, r, f⟩ := rfl
end
/-- A pointer to a ledger that knows so much. -/
def ptA (p : Nat × Vec) : Array Value := #[.pointer (some ⟨p.1, 0, none⟩)]
theorem ptA_size (p : Nat × Vec) : (ptA p).size = 1 := rfl
theorem ptA_cell (p : Nat × Vec) : ∀ u ∈ (ptA p).toList, u.oneCell' = true := by intro u hu; simp [ptA] at hu; subst hu; rfl
abbrev RowP (w : World) (base : Nat) (v : Value) (L : List (Nat × Vec)) : Prop := Row w base 47 1 ptA v L
abbrev RowE (w : World) (base : Nat) (v : Value) (L : List Ev) : Prop := Row w base 32 14 evA v L
/-- A world at block gw. -/
structure Wld (w : World) (base gw : Nat) (vL vA : Value) (ls : List (Nat × Vec)) (all : List Ev) : Prop where
  blk : Blk w gw 51 #[vL, vA]
  ge : base ≤ gw
  rl : RowP w base vL ls
  ra : RowE w base vA all
  led : ∀ p ∈ ls, LedK w p.1 p.2
section
variable {w w' : World} {base gw : Nat} {vL vA : Value} {ls : List (Nat × Vec)} {all : List Ev}
theorem Wld.call (h : Wld w base gw vL vA ls all) (hb : Below w.heap.size w w') : Wld w' base gw vL vA ls all := ⟨h.blk.call hb, h.ge, h.rl.call hb, h.ra.call hb, fun p hp => (h.led p hp).call hb⟩
end
end Go.Proofs.Ytgbbhkdaalnchaa
namespace Go.Proofs.Ytgbbhkdaalnchaa
set_option linter.unusedVariables false
set_option linter.unusedSimpArgs false
open Go.RowKit Go
set_option maxRecDepth 100000

/-- A step: ask or put, know, skip, an event, a number. -/
structure Hs where
  n : Bool
  k : Bool
  s : Bool
  e : Ev
  p : Nat
def hsA (x : Hs) : Array Value := #[.bool x.n, .bool x.k, .bool x.s, .int .i64 x.e.o, .int .u64 x.e.s, .int .u64 x.e.d.v0, .int .u64 x.e.d.v1, .int .u64 x.e.d.v2, .int .u64 x.e.d.v3, .int .u64 x.e.d.v4, .int .u64 x.e.d.v5, .int .u8 x.e.k, .int .u64 x.e.n, .int .i64 x.e.t, .int .i64 x.e.a, .int .u64 x.e.r, .int .u64 x.e.f, .int .u8 x.p]
theorem hsA_size (x : Hs) : (hsA x).size = 18 := rfl
theorem hsA_toList (x : Hs) : (hsA x).toList = [.bool x.n, .bool x.k, .bool x.s, .int .i64 x.e.o, .int .u64 x.e.s, .int .u64 x.e.d.v0, .int .u64 x.e.d.v1, .int .u64 x.e.d.v2, .int .u64 x.e.d.v3, .int .u64 x.e.d.v4, .int .u64 x.e.d.v5, .int .u8 x.e.k, .int .u64 x.e.n, .int .i64 x.e.t, .int .i64 x.e.a, .int .u64 x.e.r, .int .u64 x.e.f, .int .u8 x.p] := rfl
theorem hsA_ev (x : Hs) (j : Nat) (v : Value) (h : (evA x.e)[j]? = some v) : (hsA x)[3 + j]? = some v := by
  have hj : j < 14 := (Array.getElem?_eq_some_iff.1 h).1
  rw [← h]
  match j, hj with
  | 0, _ => rfl | 1, _ => rfl | 2, _ => rfl | 3, _ => rfl | 4, _ => rfl | 5, _ => rfl | 6, _ => rfl | 7, _ => rfl | 8, _ => rfl | 9, _ => rfl
  | 10, _ => rfl | 11, _ => rfl | 12, _ => rfl | 13, _ => rfl
structure Hs.ok (x : Hs) : Prop where
  e : x.e.ok
  p : x.p ≤ 255
theorem acA_toList (x : Ac) : (acA x).toList = [.int .u8 x.w, .bool x.m, .int .u8 x.o, .int .u8 x.k, .int .u8 x.n, .int .u8 x.t, .int .u16 x.a, .int .u8 x.r, .int .u8 x.f] := rfl
def u8A (x : Nat) : Array Value := #[.int .u8 x]
theorem u8A_size (x : Nat) : (u8A x).size = 1 := rfl
/-- Rows that came in. -/
structure RowsIn {α : Type} (w : World) (sz : Nat) (c : α → Array Value) (A : Option Addr) (L : List α) (cap : Nat) : Prop where
  rd : Rd w w.heap.size sz A L.length (flat c L)
  le : L.length ≤ cap
  mx : cap ≤ maxLen
theorem RowsIn.call {α : Type} {w w' : World} {sz : Nat} {c : α → Array Value} {A : Option Addr} {L : List α} {cap : Nat} (h : RowsIn w sz c A L cap) (hb : Below w.heap.size w w') : RowsIn w' sz c A L cap := ⟨(h.rd.below hb).mono hb.size, h.le, h.mx⟩
/-- An element's cells. -/
theorem RowsIn.at_ {α : Type} {w : World} {sz : Nat} {c : α → Array Value} {A : Option Addr} {L : List α} {cap : Nat} (h : RowsIn w sz c A L cap) (hc : ∀ x, (c x).size = sz) (h0 : 0 < sz) {i : Nat} {x : α} (hi : L[i]? = some x) :
    ∃ b o, A = some ⟨b, o, none⟩ ∧ b < w.heap.size ∧ Rng w b (o + i * sz) (c x) := by
  have hlt : i < L.length := (List.getElem?_eq_some_iff.1 hi).1
  have hne : L.length * sz ≠ 0 := Nat.mul_ne_zero (by omega) (by omega)
  obtain ⟨b, o, hA, hb, hcl⟩ := h.rd.2 (by omega)
  refine ⟨b, o, hA, hb, fun j u hu => ?_⟩
  have hj : j < sz := by rw [← hc x]; exact (Array.getElem?_eq_some_iff.1 hu).1
  have := hcl (i * sz + j) u (by rw [flat_get hc hi hj]; exact hu)
  rw [Nat.add_assoc]
  exact this
end Go.Proofs.Ytgbbhkdaalnchaa
namespace Go.Proofs.Ytgbbhkdaalnchaa
set_option linter.unusedVariables false
set_option linter.unusedSimpArgs false
open Go.RowKit Go
set_option maxRecDepth 100000

section
variable (ρ : Operand → Value) (dst : Option Tmp) (x y : Operand) (ty : TypeId) (pos : String) (after : Array Edge) (guard : Option (Nat × Bool))
@[go_sem ↓ high] theorem execOp_apE : execOp ρ { dst, op := .call { callee := .builtin .append, args := #[x, y], argTypes := #[49, 49] }, type := ty, pos, after, guard } = apd 49 ty (ρ x) (ρ y) := by simp [execOp, apd, resolve, invoke, builtin]
end
theorem evA_cell1 (x : Ev) : ∀ u ∈ (evA x).toList, u.oneCell' = true := by
  intro u hu
  simp only [evA_toList, List.mem_cons, List.mem_nil_iff, or_false] at hu
  rcases hu with rfl | rfl | rfl | rfl | rfl | rfl | rfl | rfl | rfl | rfl | rfl | rfl | rfl | rfl <;> rfl
section
variable {w : World} {base B : Nat} {v : Value} {A : Option Addr} {cap : Nat} (ty : TypeId)
theorem RowE.app {L M : List Ev} (h : RowE w base v L) (hr : Rd w B 14 A M.length (flat evA M)) (hn : L.length + M.length ≤ 1000000) (hbase : base ≤ w.heap.size) :
    ∃ v' w', (apd 49 ty v (.slice A M.length cap)).run Try.prog w = .ok (.value v') w' ∧ RowE w' base v' (L ++ M) ∧ Kt base [32] w w' ∧ w.grownBy w' v.ownBlock ∧ (v'.ownBlock = v.ownBlock ∨ ∀ b, v'.ownBlock = some b → w.heap.size ≤ b) := by
  obtain ⟨i0, hi, a1, a2, a3⟩ := info_parts infoEv
  exact Row.app w 49 ty i0 _ 112 Try.underlying49 hi a1 a2 a3 rfl (by decide) evA_size evA_cell1 h (cap := cap) hr hn (by decide) hbase
theorem RowE.erows {L : List Ev} {n : Nat} (h : RowE w base v L) (hv : v = .slice A n cap) : ERows w w.heap.size A L := Row.rd h hv
end
/-- Blocks alone are followed, over a world of which nothing stays. -/
theorem Trk.bare (w : World) : Trk { w with heap := #[] } w [] := ⟨⟨rfl, rfl, rfl, Nat.zero_le _, fun k hk => absurd hk (Nat.not_lt_zero _)⟩, fun _ _ _ h => by cases h⟩
theorem Trk.add {w0 w : World} {g : Nat} {t : TypeId} {cs : Array Value} {bs : List (Nat × TypeId × Array Value)} (T : Trk w0 w bs) (h : Blk w g t cs) : Trk w0 w ((g, t, cs) :: bs) :=
  ⟨T.below, fun g' t' cs' hm => by
    rcases List.mem_cons.1 hm with h1 | hm
    · injection h1 with e1 h1
      injection h1 with e2 e3
      subst e1 e2 e3
      exact h
    · exact T.blk _ _ _ hm⟩
end Go.Proofs.Ytgbbhkdaalnchaa
