/-
  What a vector is as cells, with the small facts that the walks use. No program here.
  Slices of any element, as lists of cells; append of whole slices. No program here.
  Numbers as bytes, the highest first: plain facts. No program here.
  What an event is as cells, and which may be: plain. No program here.
  REGIONS THAT DRAW THEIR ORDER, SOME OF WHOSE VALUES STAND IN NO FIXED PLACE (a slice literal's address): ONE WALK, in the order of the text. No program here.
  After the kit's Derived/Deep/Quiet.lean: there each operation has ONE value in every world of the class. Here a table T says which values are fixed; of the others a relation R (value, world), which later worlds keep, is all that is known,
  and an operation may lean only on what is known of those that it waits for.
  Regions that draw their order, walked once in the order of the text: each value is fixed, or known by a relation that later worlds keep. The steps, over any program.
  A region that draws its order, whose first operations can come in one order alone: these are walked as they stand, the others by the loose walk. No program here.
  A region that draws its order, whose last operations can come in one order alone, behind all others: the others by the loose walk, the last as they stand. No program here.
-/
import Derived.WalkKit
import Derived.Handy
import Derived.Deep.Draws
import Derived.BigQuiet
import Derived.Lib.Hide
import Derived.Maps.AppendAt
import Derived.OwnWalk
import Derived.Laws.BytesArg
namespace Go.Proofs.Ytgbbhkdaalnchaa
set_option linter.unusedVariables false
set_option linter.unusedSimpArgs false
open Go.RowKit

/-- Six numbers. -/
structure Vec where
  v0 : Int
  v1 : Int
  v2 : Int
  v3 : Int
  v4 : Int
  v5 : Int

namespace Vec
theorem ext {a b : Vec} (h0 : a.v0 = b.v0) (h1 : a.v1 = b.v1) (h2 : a.v2 = b.v2) (h3 : a.v3 = b.v3) (h4 : a.v4 = b.v4) (h5 : a.v5 = b.v5) : a = b := by
  cases a; cases b; simp_all
instance : DecidableEq Vec := fun a b =>
  decidable_of_iff (a.v0 = b.v0 ∧ a.v1 = b.v1 ∧ a.v2 = b.v2 ∧ a.v3 = b.v3 ∧ a.v4 = b.v4 ∧ a.v5 = b.v5)
    ⟨fun ⟨h0, h1, h2, h3, h4, h5⟩ => ext h0 h1 h2 h3 h4 h5, fun h => by subst h; simp⟩
def get (v : Vec) : Nat → Int
  | 0 => v.v0
  | 1 => v.v1
  | 2 => v.v2
  | 3 => v.v3
  | 4 => v.v4
  | 5 => v.v5
  | _ => 0
def set (v : Vec) (k : Nat) (x : Int) : Vec :=
  match k with
  | 0 => { v with v0 := x }
  | 1 => { v with v1 := x }
  | 2 => { v with v2 := x }
  | 3 => { v with v3 := x }
  | 4 => { v with v4 := x }
  | 5 => { v with v5 := x }
  | _ => v
/-- The vector whose numbers these are. -/
def ofFn (f : Nat → Int) : Vec := ⟨f 0, f 1, f 2, f 3, f 4, f 5⟩
def zero : Vec := ⟨0, 0, 0, 0, 0, 0⟩
theorem six {P : Nat → Prop} (h0 : P 0) (h1 : P 1) (h2 : P 2) (h3 : P 3) (h4 : P 4) (h5 : P 5) (k : Nat) (h : k < 6) : P k := by
  match k, h with
  | 0, _ => exact h0
  | 1, _ => exact h1
  | 2, _ => exact h2
  | 3, _ => exact h3
  | 4, _ => exact h4
  | 5, _ => exact h5
theorem ext_get {a b : Vec} (h : ∀ k, k < 6 → a.get k = b.get k) : a = b :=
  ext (h 0 (by omega)) (h 1 (by omega)) (h 2 (by omega)) (h 3 (by omega)) (h 4 (by omega)) (h 5 (by omega))
theorem get_ofFn (f : Nat → Int) (k : Nat) (h : k < 6) : (ofFn f).get k = f k :=
  six (P := fun k => (ofFn f).get k = f k) rfl rfl rfl rfl rfl rfl k h
theorem ofFn_get (v : Vec) : ofFn v.get = v := rfl
theorem get_set_same (v : Vec) (k : Nat) (x : Int) (h : k < 6) : (v.set k x).get k = x :=
  six (P := fun k => (v.set k x).get k = x) rfl rfl rfl rfl rfl rfl k h
theorem get_set_other (v : Vec) (k j : Nat) (x : Int) (h : k < 6) (hj : j < 6) (hne : j ≠ k) : (v.set k x).get j = v.get j := by
  have hk' : k = 0 ∨ k = 1 ∨ k = 2 ∨ k = 3 ∨ k = 4 ∨ k = 5 := by omega
  have hj' : j = 0 ∨ j = 1 ∨ j = 2 ∨ j = 3 ∨ j = 4 ∨ j = 5 := by omega
  rcases hk' with rfl | rfl | rfl | rfl | rfl | rfl <;> rcases hj' with rfl | rfl | rfl | rfl | rfl | rfl <;> first | exact (hne rfl).elim | rfl
theorem get_set (v : Vec) (k j : Nat) (x : Int) (h : k < 6) (hj : j < 6) : (v.set k x).get j = if j = k then x else v.get j := by
  by_cases e : j = k
  · subst e; rw [if_pos rfl]; exact get_set_same v j x h
  · rw [if_neg e]; exact get_set_other v k j x h hj e
theorem get_zero (k : Nat) : zero.get k = 0 := by
  unfold get zero; split <;> rfl
/-- The numbers are numbers of 64 bits. -/
def ok (v : Vec) : Prop := ∀ k, k < 6 → 0 ≤ v.get k ∧ v.get k ≤ 18446744073709551615
theorem ok_zero : zero.ok := fun k _ => by rw [get_zero]; omega
/-- For the loop that fills a vector: the first k are there. -/
def upto (v : Vec) (k : Nat) : Vec := ofFn fun j => if j < k then v.get j else 0
theorem upto_zero (v : Vec) : v.upto 0 = zero := rfl
theorem upto_six (v : Vec) : v.upto 6 = v := rfl
theorem upto_succ (v : Vec) (k : Nat) (h : k < 6) : (v.upto k).set k (v.get k) = v.upto (k + 1) :=
  six (P := fun k => (v.upto k).set k (v.get k) = v.upto (k + 1)) rfl rfl rfl rfl rfl rfl k h
/-- Place by place. -/
def map2 (c : Int → Int → Int) (a b : Vec) : Vec := ofFn fun j => c (a.get j) (b.get j)
theorem get_map2 (c : Int → Int → Int) (a b : Vec) (k : Nat) (h : k < 6) : (map2 c a b).get k = c (a.get k) (b.get k) := get_ofFn _ k h
/-- What is chosen of all, from the left. -/
def foldV (c : Int → Int → Int) : List Vec → Vec
  | [] => zero
  | v :: r => r.foldl (map2 c) v
theorem foldV_take (c : Int → Int → Int) (L : List Vec) (k : Nat) (v : Vec) (h0 : 0 < k) (h : L[k]? = some v) : foldV c (L.take (k + 1)) = map2 c (foldV c (L.take k)) v := by
  cases L with
  | nil => simp at h
  | cons a r =>
    obtain ⟨k, rfl⟩ : ∃ j, k = j + 1 := ⟨k - 1, by omega⟩
    simp only [List.getElem?_cons_succ] at h
    simp only [List.take_succ_cons, foldV]
    rw [List.take_add_one, h]
    simp
end Vec

/-- A vector's cells. -/
def vecA (v : Vec) : Array Value := #[.int .u64 v.v0, .int .u64 v.v1, .int .u64 v.v2, .int .u64 v.v3, .int .u64 v.v4, .int .u64 v.v5]
theorem vecA_get (v : Vec) (k : Nat) (h : k < 6) : (vecA v)[k]? = some (.int .u64 (v.get k)) :=
  Vec.six (P := fun k => (vecA v)[k]? = some (.int .u64 (v.get k))) rfl rfl rfl rfl rfl rfl k h
theorem vecA_set (v : Vec) (k : Nat) (x : Int) (h : k < 6) : (vecA v).setIfInBounds k (.int .u64 x) = vecA (v.set k x) :=
  Vec.six (P := fun k => (vecA v).setIfInBounds k (.int .u64 x) = vecA (v.set k x)) rfl rfl rfl rfl rfl rfl k h
theorem vecA_size (v : Vec) : (vecA v).size = 6 := rfl
theorem vecA_toList (v : Vec) : (vecA v).toList = [.int .u64 v.v0, .int .u64 v.v1, .int .u64 v.v2, .int .u64 v.v3, .int .u64 v.v4, .int .u64 v.v5] := rfl
theorem vecA_0 (v : Vec) : (vecA v)[0]? = some (.int .u64 v.v0) := rfl
theorem vecA_1 (v : Vec) : (vecA v)[1]? = some (.int .u64 v.v1) := rfl
theorem vecA_2 (v : Vec) : (vecA v)[2]? = some (.int .u64 v.v2) := rfl
theorem vecA_3 (v : Vec) : (vecA v)[3]? = some (.int .u64 v.v3) := rfl
theorem vecA_4 (v : Vec) : (vecA v)[4]? = some (.int .u64 v.v4) := rfl
theorem vecA_5 (v : Vec) : (vecA v)[5]? = some (.int .u64 v.v5) := rfl
theorem vecA_fold (v : Vec) : #[Value.int .u64 v.v0, .int .u64 v.v1, .int .u64 v.v2, .int .u64 v.v3, .int .u64 v.v4, .int .u64 v.v5] = vecA v := rfl
theorem vecA_mk (a b c d e f : Int) : #[Value.int .u64 a, .int .u64 b, .int .u64 c, .int .u64 d, .int .u64 e, .int .u64 f] = vecA ⟨a, b, c, d, e, f⟩ := rfl
theorem vec_zero : (⟨0, 0, 0, 0, 0, 0⟩ : Vec) = Vec.zero := rfl
theorem vecA_zero : #[Value.int .u64 0, .int .u64 0, .int .u64 0, .int .u64 0, .int .u64 0, .int .u64 0] = vecA Vec.zero := rfl
theorem vecA_set0 (v : Vec) (x : Int) : (vecA v).setIfInBounds 0 (.int .u64 x) = vecA ⟨x, v.v1, v.v2, v.v3, v.v4, v.v5⟩ := rfl
theorem vecA_set1 (v : Vec) (x : Int) : (vecA v).setIfInBounds 1 (.int .u64 x) = vecA ⟨v.v0, x, v.v2, v.v3, v.v4, v.v5⟩ := rfl
theorem vecA_set2 (v : Vec) (x : Int) : (vecA v).setIfInBounds 2 (.int .u64 x) = vecA ⟨v.v0, v.v1, x, v.v3, v.v4, v.v5⟩ := rfl
theorem vecA_set3 (v : Vec) (x : Int) : (vecA v).setIfInBounds 3 (.int .u64 x) = vecA ⟨v.v0, v.v1, v.v2, x, v.v4, v.v5⟩ := rfl
theorem vecA_set4 (v : Vec) (x : Int) : (vecA v).setIfInBounds 4 (.int .u64 x) = vecA ⟨v.v0, v.v1, v.v2, v.v3, x, v.v5⟩ := rfl
theorem vecA_set5 (v : Vec) (x : Int) : (vecA v).setIfInBounds 5 (.int .u64 x) = vecA ⟨v.v0, v.v1, v.v2, v.v3, v.v4, x⟩ := rfl
theorem vec_eta (v : Vec) : (⟨v.v0, v.v1, v.v2, v.v3, v.v4, v.v5⟩ : Vec) = v := rfl
theorem vzero_0 : Vec.zero.v0 = 0 := rfl
theorem vzero_1 : Vec.zero.v1 = 0 := rfl
theorem vzero_2 : Vec.zero.v2 = 0 := rfl
theorem vzero_3 : Vec.zero.v3 = 0 := rfl
theorem vzero_4 : Vec.zero.v4 = 0 := rfl
theorem vzero_5 : Vec.zero.v5 = 0 := rfl
theorem vecA_ne_nil (v : Vec) : (vecA v = #[]) = False := by simp [vecA]
attribute [go_sem] vzero_0 vzero_1 vzero_2 vzero_3 vzero_4 vzero_5 vecA_ne_nil
attribute [go_sem] vecA_set0 vecA_set1 vecA_set2 vecA_set3 vecA_set4 vecA_set5 vec_eta
attribute [go_sem] vecA_size vecA_toList vecA_0 vecA_1 vecA_2 vecA_3 vecA_4 vecA_5 vecA_mk vec_zero

/-- What 'Below' says of cells and of marks, as two rules of the walk. -/
theorem bcell {W w1 : World} (hb : Below W.heap.size W w1) :
    (∀ b o, b < W.heap.size → w1.cell? ⟨b, o, none⟩ = W.cell? ⟨b, o, none⟩) ∧ (∀ b o, b < W.heap.size → w1.frozen? ⟨b, o, none⟩ = W.frozen? ⟨b, o, none⟩) :=
  ⟨fun b o h => hb.cell (p := ⟨b, o, none⟩) h, fun b o h => hb.frozen (p := ⟨b, o, none⟩) h⟩

/-- A block that is known whole, none of its cells frozen. -/
def Blk (w : World) (g : Nat) (t : TypeId) (cs : Array Value) : Prop := w.heap[g]? = some (.cells cs t (0, 0))
section
variable {w w' : World} {g : Nat} {t : TypeId} {cs : Array Value}
theorem Blk.lt (h : Blk w g t cs) : g < w.heap.size := by
  rcases Nat.lt_or_ge g w.heap.size with hlt | hge
  · exact hlt
  · unfold Blk at h; rw [Array.getElem?_eq_none hge] at h; cases h
theorem Blk.cell (h : Blk w g t cs) (i : Nat) : w.cell? ⟨g, i, none⟩ = cs[i]? := cell_of_row w g i cs t (0, 0) h
theorem Blk.frozen (h : Blk w g t cs) (i : Nat) : w.frozen? ⟨g, i, none⟩ = false := by
  unfold Blk at h
  simp [World.frozen?, h]
theorem Blk.new (w : World) (t : TypeId) (cs : Array Value) : Blk (w.alloc (.cells cs t)) w.heap.size t cs := heap_alloc_new w _
theorem Blk.new_at {w : World} {g : Nat} {t : TypeId} {cs cs' : Array Value} (h : w.heap.size = g) (hc : cs = cs') : Blk (w.alloc (.cells cs t)) g t cs' := by subst h; subst hc; exact Blk.new w t cs
theorem Blk.drew (h : Blk w g t cs) : Blk w.drew g t cs := h
theorem Blk.alloc (h : Blk w g t cs) (o : Obj) : Blk (w.alloc o) g t cs := (Below.heap_alloc w o g h.lt).trans h
theorem Blk.set_ (h : Blk w g t cs) (i : Nat) (u : Value) : Blk (w.setCell ⟨g, i, none⟩ u) g t (cs.setIfInBounds i u) := by
  unfold Blk at h ⊢
  simp [World.setCell, Array.getElem?_modify, h]
theorem Blk.far (h : Blk w g t cs) {p : Addr} (hp : g ≠ p.block) (u : Value) : Blk (w.setCell p u) g t cs := (Below.heap_setCell w p u g hp).trans h
theorem Blk.below {B : Nat} (h : Blk w g t cs) (hb : Below B w w') (hg : g < B) : Blk w' g t cs := (hb.block g hg).trans h
/-- The two rules of the walk. -/
theorem Blk.rules (h : Blk w g t cs) : (∀ i, w.cell? ⟨g, i, none⟩ = cs[i]?) ∧ (∀ i, w.frozen? ⟨g, i, none⟩ = false) := ⟨h.cell, h.frozen⟩
end

/-- A whole vector stored into a block of its own. -/
theorem Blk.setVec {w : World} {g : Nat} {t : TypeId} {O : Vec} (h : Blk w g t (vecA O)) (R : Vec) :
    Blk ((((((w.setCell ⟨g, 0, none⟩ (.int .u64 R.v0)).setCell ⟨g, 1, none⟩ (.int .u64 R.v1)).setCell ⟨g, 2, none⟩ (.int .u64 R.v2)).setCell ⟨g, 3, none⟩ (.int .u64 R.v3)).setCell ⟨g, 4, none⟩ (.int .u64 R.v4)).setCell ⟨g, 5, none⟩ (.int .u64 R.v5)) g t (vecA R) :=
  (((((h.set_ 0 _).set_ 1 _).set_ 2 _).set_ 3 _).set_ 4 _).set_ 5 (.int .u64 R.v5)
theorem Blk.farVec {w : World} {g d : Nat} {t : TypeId} {cs : Array Value} (h : Blk w g t cs) (hne : g ≠ d) (R : Vec) :
    Blk ((((((w.setCell ⟨d, 0, none⟩ (.int .u64 R.v0)).setCell ⟨d, 1, none⟩ (.int .u64 R.v1)).setCell ⟨d, 2, none⟩ (.int .u64 R.v2)).setCell ⟨d, 3, none⟩ (.int .u64 R.v3)).setCell ⟨d, 4, none⟩ (.int .u64 R.v4)).setCell ⟨d, 5, none⟩ (.int .u64 R.v5)) g t cs :=
  (((((h.far (p := ⟨d, 0, none⟩) hne _).far (p := ⟨d, 1, none⟩) hne _).far (p := ⟨d, 2, none⟩) hne _).far (p := ⟨d, 3, none⟩) hne _).far (p := ⟨d, 4, none⟩) hne _).far (p := ⟨d, 5, none⟩) hne _
theorem below_setVec {B : Nat} {a w : World} (h : Below B a w) {d : Nat} (hd : B ≤ d) (R : Vec) :
    Below B a ((((((w.setCell ⟨d, 0, none⟩ (.int .u64 R.v0)).setCell ⟨d, 1, none⟩ (.int .u64 R.v1)).setCell ⟨d, 2, none⟩ (.int .u64 R.v2)).setCell ⟨d, 3, none⟩ (.int .u64 R.v3)).setCell ⟨d, 4, none⟩ (.int .u64 R.v4)).setCell ⟨d, 5, none⟩ (.int .u64 R.v5)) :=
  (((((h.setCell (p := ⟨d, 0, none⟩) hd _).setCell (p := ⟨d, 1, none⟩) hd _).setCell (p := ⟨d, 2, none⟩) hd _).setCell (p := ⟨d, 3, none⟩) hd _).setCell (p := ⟨d, 4, none⟩) hd _).setCell (p := ⟨d, 5, none⟩) hd _

/-- A slice of vectors that reads as a list; all its cells lie below block B. -/
def VRows (w : World) (B : Nat) (A : Option Addr) (L : List Vec) : Prop :=
  L ≠ [] → ∃ b o, A = some ⟨b, o, none⟩ ∧ b < B ∧ ∀ i v, L[i]? = some v → ∀ j, j < 6 → w.cell? ⟨b, o + i * 6 + j, none⟩ = some (.int .u64 (v.get j))
/-- Six cells that hold a vector. -/
@[reducible] def SixAt (w : World) (b o : Nat) (v : Vec) : Prop :=
  w.cell? ⟨b, o, none⟩ = some (.int .u64 v.v0) ∧ w.cell? ⟨b, o + 1, none⟩ = some (.int .u64 v.v1) ∧ w.cell? ⟨b, o + 2, none⟩ = some (.int .u64 v.v2) ∧
  w.cell? ⟨b, o + 3, none⟩ = some (.int .u64 v.v3) ∧ w.cell? ⟨b, o + 4, none⟩ = some (.int .u64 v.v4) ∧ w.cell? ⟨b, o + 5, none⟩ = some (.int .u64 v.v5)
theorem sixAt_of {w : World} {b o i : Nat} {v : Vec} (h : ∀ j, j < 6 → w.cell? ⟨b, o + i * 6 + j, none⟩ = some (.int .u64 (v.get j))) : SixAt w b (o + i * 6) v :=
  ⟨h 0 (by omega), h 1 (by omega), h 2 (by omega), h 3 (by omega), h 4 (by omega), h 5 (by omega)⟩
theorem SixAt.below {w w' : World} {B b o : Nat} {v : Vec} (h : SixAt w b o v) (hb : Below B w w') (hlt : b < B) : SixAt w' b o v :=
  ⟨(hb.cell (p := ⟨b, _, none⟩) hlt).trans h.1, (hb.cell (p := ⟨b, _, none⟩) hlt).trans h.2.1, (hb.cell (p := ⟨b, _, none⟩) hlt).trans h.2.2.1,
   (hb.cell (p := ⟨b, _, none⟩) hlt).trans h.2.2.2.1, (hb.cell (p := ⟨b, _, none⟩) hlt).trans h.2.2.2.2.1, (hb.cell (p := ⟨b, _, none⟩) hlt).trans h.2.2.2.2.2⟩
theorem VRows.below {w w' : World} {B : Nat} {A : Option Addr} {L : List Vec} (h : VRows w B A L) (hb : Below B w w') : VRows w' B A L := fun hL => by
  obtain ⟨b, o, hA, hlt, hc⟩ := h hL
  exact ⟨b, o, hA, hlt, fun i v hi j hj => (hb.cell (p := ⟨b, _, none⟩) hlt).trans (hc i v hi j hj)⟩

/-- Two vectors held against each other. -/
theorem run_equalIn_vec {P : Program} (w : World) (d : Nat) (t e : TypeId) (i : TypeInfo) (a b : Vec) (ht : P.underlying t = some (.array 6 e)) (he : P.underlying e = some (.int .u64)) (hi : P.info? e = some i) (hz : i.size = 1) :
    (Op.equalIn (d + 2) t (.agg (vecA a)) (.agg (vecA b))).run P w = .ok (decide (a = b)) w := by
  have hag : ∀ w, (isAgg e).run P w = .ok false w := fun w => by simp [isAgg, run_underlying he]
  have hsz : ∀ w, (sizeOf e).run P w = .ok 1 w := fun w => by simp [sizeOf, typeInfo, hi, hz]
  have hp : ∀ (v : Vec) (k : Nat) (h : k < 6) w, (part e (vecA v) k).run P w = .ok (.int .u64 (v.get k)) w := fun v k h w => by
    simp [part, hag, vecA_get v k h]
  have hq : ∀ (x y : Int) w, (Op.equalIn (d + 1) e (.int .u64 x) (.int .u64 y)).run P w = .ok (x == y) w := fun x y w => run_equalIn_int w d e .u64 .u64 x y he
  have hd : decide (a = b) = (a.get 0 == b.get 0 && (a.get 1 == b.get 1 && (a.get 2 == b.get 2 && (a.get 3 == b.get 3 && (a.get 4 == b.get 4 && a.get 5 == b.get 5))))) := by
    rw [Bool.eq_iff_iff]
    simp only [decide_eq_true_eq, Bool.and_eq_true, beq_iff_eq]
    exact ⟨fun h => by subst h; simp, fun ⟨h0, h1, h2, h3, h4, h5⟩ => Vec.ext h0 h1 h2 h3 h4 h5⟩
  have a0 := hp a 0 (by omega)
  have a1 := hp a 1 (by omega)
  have a2 := hp a 2 (by omega)
  have a3 := hp a 3 (by omega)
  have a4 := hp a 4 (by omega)
  have a5 := hp a 5 (by omega)
  have b0 := hp b 0 (by omega)
  have b1 := hp b 1 (by omega)
  have b2 := hp b 2 (by omega)
  have b3 := hp b 3 (by omega)
  have b4 := hp b 4 (by omega)
  have b5 := hp b 5 (by omega)
  rw [Op.equalIn, hd]
  simp only [Sem.run_bind, run_underlying ht, Result.andThen_ok, hsz]
  simp [Std.Legacy.Range.forIn_eq_forIn_range', List.range'_succ, a0, a1, a2, a3, a4, a5, b0, b1, b2, b3, b4, b5, hq]
  clear a0 a1 a2 a3 a4 a5 b0 b1 b2 b3 b4 b5 hp hq hd
  by_cases e0 : a.get 0 = b.get 0
  · by_cases e1 : a.get 1 = b.get 1
    · by_cases e2 : a.get 2 = b.get 2
      · by_cases e3 : a.get 3 = b.get 3
        · by_cases e4 : a.get 4 = b.get 4
          · by_cases e5 : a.get 5 = b.get 5 <;> simp [e0, e1, e2, e3, e4, e5]
          · simp [e0, e1, e2, e3, e4]
        · simp [e0, e1, e2, e3]
      · simp [e0, e1, e2]
    · simp [e0, e1]
  · simp [e0]

theorem below_drewN {B : Nat} {a w : World} (h : Below B a w) (n : Nat) : Below B a (w.drewN n) := ⟨h.os, h.tape, h.output, h.size, h.block⟩
theorem VRows.mono {w : World} {B B' : Nat} {A : Option Addr} {L : List Vec} (h : VRows w B A L) (hB : B ≤ B') : VRows w B' A L := fun hL => by
  obtain ⟨b, o, hA, hlt, hc⟩ := h hL
  exact ⟨b, o, hA, by omega, hc⟩
/-- Two vectors in a block of their own. -/
theorem vrows_two {w : World} {g : Nat} {t : TypeId} {a b : Vec} (h : w.heap[g]? = some (.cells #[.int .u64 a.v0, .int .u64 a.v1, .int .u64 a.v2, .int .u64 a.v3, .int .u64 a.v4, .int .u64 a.v5, .int .u64 b.v0, .int .u64 b.v1, .int .u64 b.v2, .int .u64 b.v3, .int .u64 b.v4, .int .u64 b.v5] t (0, 0))) :
    VRows w (g + 1) (some ⟨g, 0, none⟩) [a, b] := fun _ => by
  refine ⟨g, 0, rfl, by omega, fun i v hi j hj => ?_⟩
  rw [cell_of_row w g _ _ t (0, 0) h]
  match i, hi with
  | 0, hi =>
    simp at hi; subst hi
    exact Vec.six (P := fun j => (#[.int .u64 a.v0, .int .u64 a.v1, .int .u64 a.v2, .int .u64 a.v3, .int .u64 a.v4, .int .u64 a.v5, .int .u64 b.v0, .int .u64 b.v1, .int .u64 b.v2, .int .u64 b.v3, .int .u64 b.v4, .int .u64 b.v5] : Array Value)[0 + 0 * 6 + j]? = some (.int .u64 (a.get j))) rfl rfl rfl rfl rfl rfl j hj
  | 1, hi =>
    simp at hi; subst hi
    exact Vec.six (P := fun j => (#[.int .u64 a.v0, .int .u64 a.v1, .int .u64 a.v2, .int .u64 a.v3, .int .u64 a.v4, .int .u64 a.v5, .int .u64 b.v0, .int .u64 b.v1, .int .u64 b.v2, .int .u64 b.v3, .int .u64 b.v4, .int .u64 b.v5] : Array Value)[0 + 1 * 6 + j]? = some (.int .u64 (b.get j))) rfl rfl rfl rfl rfl rfl j hj

/-- Two blocks of the call's own that stand while a region goes on: for 'go_region_held3'. -/
def Two (w0 : World) (t : TypeId) (a b : Array Value) (w' : World) : Prop := Blk w' w0.heap.size t a ∧ Blk w' (w0.heap.size + 1) t b ∧ Below w0.heap.size w0 w'
section
variable {w0 W w1 : World} {t : TypeId} {a b : Array Value}
theorem Two.all (h : Two w0 t a b W) : ((∀ i, W.cell? ⟨w0.heap.size, i, none⟩ = a[i]?) ∧ (∀ i, W.cell? ⟨w0.heap.size + 1, i, none⟩ = b[i]?)) ∧ Two w0 t a b W := ⟨⟨h.1.cell, h.2.1.cell⟩, h⟩
theorem Two.start : Two w0 t a b ((w0.alloc (.cells a t)).alloc (.cells b t)) :=
  ⟨(Blk.new_at rfl rfl).alloc _, Blk.new_at (by simp) rfl, ((Below.refl _ _).alloc (Nat.le_refl _) _).alloc (by simp) _⟩
theorem Two.drew (h : Two w0 t a b W) : Two w0 t a b W.drew := ⟨h.1, h.2.1, h.2.2.drew⟩
theorem Two.alloc (h : Two w0 t a b W) (o : Obj) : Two w0 t a b (W.alloc o) := ⟨h.1.alloc o, h.2.1.alloc o, h.2.2.alloc h.2.2.size o⟩
theorem Two.undrew (h : Two w0 t a b W.drew) : Two w0 t a b W := ⟨h.1, h.2.1, ⟨h.2.2.os, h.2.2.tape, h.2.2.output, h.2.2.size, h.2.2.block⟩⟩
theorem Two.below (h : Two w0 t a b W) (hb : Below W.heap.size W w1) : Two w0 t a b w1 := ⟨h.1.below hb h.1.lt, h.2.1.below hb h.2.1.lt, h.2.2.trans (hb.mono h.2.2.size)⟩
end

/-- For 'go_region_held3': all that was there when the region began is there still. S is 'fun w' => (the rule) ∧ Sb W0 w''. -/
def Sb (W0 w' : World) : Prop := Below W0.heap.size W0 w'
section
variable {W0 W w1 : World}
theorem Sb.all (h : Sb W0 W) : (∀ b o, b < W0.heap.size → W.cell? ⟨b, o, none⟩ = W0.cell? ⟨b, o, none⟩) ∧ Sb W0 W := ⟨fun b o hb => Below.cell h (p := ⟨b, o, none⟩) hb, h⟩
theorem Sb.start : Sb W0 W0 := Below.refl _ _
theorem Sb.drew (h : Sb W0 W) : Sb W0 W.drew := Below.drew h
theorem Sb.undrew (h : Sb W0 W.drew) : Sb W0 W := ⟨h.os, h.tape, h.output, h.size, h.block⟩
theorem Sb.alloc (h : Sb W0 W) (o : Obj) : Sb W0 (W.alloc o) := Below.alloc h h.size o
theorem Sb.below (h : Sb W0 W) (hb : Below W.heap.size W w1) : Sb W0 w1 := Below.trans h (hb.mono h.size)
end

/-- Blocks of the call's own, known whole, while it goes on: nothing that was there in w0 has turned. -/
@[reducible] def Rules (w : World) : List (Nat × TypeId × Array Value) → Prop
  | [] => True
  | (g, _, cs) :: r => (∀ i, w.cell? ⟨g, i, none⟩ = cs[i]?) ∧ (∀ i, w.frozen? ⟨g, i, none⟩ = false) ∧ Rules w r
@[reducible] def Lts (w : World) : List (Nat × TypeId × Array Value) → Prop
  | [] => True
  | (g, _, _) :: r => g < w.heap.size ∧ Lts w r
structure Trk (w0 w : World) (bs : List (Nat × TypeId × Array Value)) : Prop where
  below : Below w0.heap.size w0 w
  blk : ∀ g t cs, (g, t, cs) ∈ bs → Blk w g t cs
section
variable {w0 w w1 : World} {bs : List (Nat × TypeId × Array Value)} {g : Nat} {t : TypeId} {cs : Array Value}
theorem Trk.nil (w : World) : Trk w w [] := ⟨Below.refl _ _, fun _ _ _ h => by cases h⟩
theorem Trk.push (h : Trk w0 w bs) (hg : w.heap.size = g) : Trk w0 (w.alloc (.cells cs t)) ((g, t, cs) :: bs) :=
  ⟨h.below.alloc h.below.size _, fun g' t' cs' hm => by
    rcases List.mem_cons.1 hm with e | hm
    · cases e; exact Blk.new_at hg rfl
    · exact (h.blk _ _ _ hm).alloc _⟩
theorem Trk.alloc (h : Trk w0 w bs) (o : Obj) : Trk w0 (w.alloc o) bs := ⟨h.below.alloc h.below.size _, fun _ _ _ hm => (h.blk _ _ _ hm).alloc _⟩
theorem Trk.drew (h : Trk w0 w bs) : Trk w0 w.drew bs := ⟨h.below.drew, h.blk⟩
theorem Trk.drewN (h : Trk w0 w bs) (n : Nat) : Trk w0 (w.drewN n) bs := ⟨below_drewN h.below n, h.blk⟩
theorem Trk.undrew (h : Trk w0 w.drew bs) : Trk w0 w bs := ⟨⟨h.below.os, h.below.tape, h.below.output, h.below.size, h.below.block⟩, h.blk⟩
theorem Trk.call (h : Trk w0 w bs) (hb : Below w.heap.size w w1) : Trk w0 w1 bs :=
  ⟨h.below.trans (hb.mono h.below.size), fun _ _ _ hm => (h.blk _ _ _ hm).below hb (h.blk _ _ _ hm).lt⟩
theorem Trk.drop (h : Trk w0 w ((g, t, cs) :: bs)) : Trk w0 w bs := ⟨h.below, fun _ _ _ hm => h.blk _ _ _ (List.mem_cons_of_mem _ hm)⟩
theorem Trk.rules (h : Trk w0 w bs) : Rules w bs := by
  obtain ⟨_, hb⟩ := h
  induction bs with
  | nil => trivial
  | cons x r ih =>
    obtain ⟨g, t, cs⟩ := x
    exact ⟨(hb g t cs List.mem_cons_self).cell, (hb g t cs List.mem_cons_self).frozen, ih fun g t cs hm => hb g t cs (List.mem_cons_of_mem _ hm)⟩
theorem Trk.lts (h : Trk w0 w bs) : Lts w bs := by
  obtain ⟨_, hb⟩ := h
  induction bs with
  | nil => trivial
  | cons x r ih =>
    obtain ⟨g, t, cs⟩ := x
    exact ⟨(hb g t cs List.mem_cons_self).lt, ih fun g t cs hm => hb g t cs (List.mem_cons_of_mem _ hm)⟩
theorem Trk.both (h : Trk w0 w bs) : Rules w bs ∧ Trk w0 w bs := ⟨h.rules, h⟩
theorem Trk.lt (h : Trk w0 w ((g, t, cs) :: bs)) : g < w.heap.size := (h.blk _ _ _ List.mem_cons_self).lt
end
/-- A contract, told to a walk that follows blocks of its own. -/
theorem Calls.trk {P : Program} {f : FuncId} {args : Array Value} {w0 W : World} {v : Value} {bs : List (Nat × TypeId × Array Value)}
    (h : Calls P f args W fun e w' => e = .returned v ∧ Below W.heap.size W w') (T : Trk w0 W bs) :
    Calls P f args W fun e w' => e = .returned v ∧ Trk w0 w' bs ∧ Rules w' bs :=
  h.mono fun _ _ ⟨he, hb⟩ => ⟨he, T.call hb, (T.call hb).rules⟩

/-- The cells of a list of vectors. -/
def vcells (L : List Vec) : List Value := L.flatMap fun v => (vecA v).toList
theorem vcells_length (L : List Vec) : (vcells L).length = L.length * 6 := by
  induction L with
  | nil => rfl
  | cons v L ih => simp only [vcells, List.flatMap_cons, List.length_append, List.length_cons] at ih ⊢; rw [ih]; simp [vecA]; omega
theorem vcells_get (L : List Vec) (i : Nat) (v : Vec) (h : L[i]? = some v) (j : Nat) (hj : j < 6) : (vcells L)[i * 6 + j]? = some (.int .u64 (v.get j)) := by
  induction L generalizing i with
  | nil => simp at h
  | cons u L ih =>
    have hl : ((vecA u).toList).length = 6 := rfl
    cases i with
    | zero =>
      simp at h; subst h
      simp only [vcells, List.flatMap_cons]
      rw [List.getElem?_append_left (by rw [hl]; omega), Nat.zero_mul, Nat.zero_add, Array.getElem?_toList]
      exact vecA_get u j hj
    | succ i =>
      have h' : L[i]? = some v := by simpa using h
      have := ih i h'
      simp only [vcells, List.flatMap_cons] at this ⊢
      rw [List.getElem?_append_right (by rw [hl]; omega), hl, show (i + 1) * 6 + j - 6 = i * 6 + j from by omega]
      exact this
theorem vcells_snoc (L : List Vec) (v : Vec) : vcells (L ++ [v]) = vcells L ++ (vecA v).toList := by
  simp [vcells]
theorem ownsRow_below {w w' : World} {base : Nat} {e : TypeId} {size : Nat} {v : Value} {n : Nat} {xs : List Value} (h : w.ownsRow base e size v n xs) (hb : Below w.heap.size w w') : w'.ownsRow base e size v n xs := by
  obtain ⟨h1, h2⟩ := h
  refine ⟨h1, ?_⟩
  rcases h2 with h2 | ⟨g, cap, cur, hv, hg, hh, r⟩
  · exact Or.inl h2
  · exact Or.inr ⟨g, cap, cur, hv, hg, (hb.block g (Blk.lt hh)).trans hh, r⟩
theorem vrows_own {w : World} {base : Nat} {e : TypeId} {v : Value} {L : List Vec} (h : w.ownsRow base e 6 v L.length (vcells L)) :
    ∃ A c, v = .slice A L.length c ∧ L.length ≤ c ∧ c ≤ maxLen ∧ VRows w w.heap.size A L := by
  have h0 := h
  obtain ⟨_, h2⟩ := h
  rcases h2 with ⟨rfl, hn⟩ | ⟨g, cap, cur, rfl, hg, hh, hnc, hcm, _, _⟩
  · refine ⟨none, 0, by rw [hn], by omega, by decide, fun hL => absurd (List.eq_nil_of_length_eq_zero hn) hL⟩
  · refine ⟨_, cap, rfl, hnc, hcm, fun _ => ⟨g, 0, rfl, Blk.lt hh, fun i u hi j hj => ?_⟩⟩
    have hlt : i < L.length := (List.getElem?_eq_some_iff.1 hi).1
    have := h0.cellAt (0 + i * 6 + j) (by omega)
    rw [this, Nat.zero_add]
    exact vcells_get L i u hi j hj
/-- A slice of bytes that reads as a list of numbers. -/
def BRows (w : World) (B : Nat) (A : Option Addr) (l : List Int) : Prop :=
  l ≠ [] → ∃ b o, A = some ⟨b, o, none⟩ ∧ b < B ∧ ∀ i x, l[i]? = some x → w.cell? ⟨b, o + i, none⟩ = some (.int .u8 x)
theorem BRows.below {w w' : World} {B : Nat} {A : Option Addr} {l : List Int} (h : BRows w B A l) (hb : Below B w w') : BRows w' B A l := fun hL => by
  obtain ⟨b, o, hA, hlt, hc⟩ := h hL
  exact ⟨b, o, hA, hlt, fun i x hi => (hb.cell (p := ⟨b, _, none⟩) hlt).trans (hc i x hi)⟩
theorem Trk.six {w0 w : World} {b o : Nat} {u : Vec} {bs : List (Nat × TypeId × Array Value)} (h6 : SixAt w0 b o u) (hlt : b < w0.heap.size) (T : Trk w0 w bs) : (SixAt w b o u ∧ Rules w bs) ∧ Trk w0 w bs :=
  ⟨⟨h6.below T.below hlt, T.rules⟩, T⟩

/-- A world that comes later: all that was there in W0 is there still. A region that draws its order, whose operations read and call alone, is walked once, in the class of these worlds (Derived/Deep/Quiet.lean's theorem). -/
def Later (W0 : World) : Type := { w' : World // Below W0.heap.size W0 w' }
instance {W0 : World} : Nonempty (Later W0) := ⟨⟨W0, Below.refl _ _⟩⟩
def Later.w {W0 : World} (x : Later W0) : World := x.1
theorem Later.below {W0 : World} (x : Later W0) : Below W0.heap.size W0 x.w := x.2
@[go_sem] theorem Later.cell {W0 : World} (x : Later W0) (b o : Nat) (h : b < W0.heap.size) : x.w.cell? ⟨b, o, none⟩ = W0.cell? ⟨b, o, none⟩ := x.below.cell (p := ⟨b, o, none⟩) h
theorem later_exists {W0 : World} {F : World → Prop} : (∀ w', (∃ x : Later W0, w' = x.w) → F w') ↔ ∀ x : Later W0, F x.w :=
  ⟨fun h x => h _ ⟨x, rfl⟩, fun h _ ⟨x, e⟩ => e ▸ h x⟩
theorem wp_region_later {P : Program} {id : Nat} {Q : Exit → Act → World → Prop} {a : Act} {W0 : World} {l : List Oper} (hm : P.follows .mixedOrders = true) (hB : Region.lexB .any l.toArray = true)
    (h : wpQuiet P l.toArray (fun w' => ∃ x : Later W0, w' = x.w) (fun a' => ∀ w', (∃ x : Later W0, w' = x.w) → Q .normal a' w') l a) : (Code.region id l.toArray true).wp P Q a W0 :=
  wp_region_quiet (C := fun w' => ∃ x : Later W0, w' = x.w) hm hB ⟨⟨W0.drew, (Below.refl _ _).drew⟩, rfl⟩ (by simpa using h)
theorem Calls.later {P : Program} {f : FuncId} {args : Array Value} {W0 : World} {x : Later W0} {v : Value} (h : Calls P f args x.w fun e w' => e = .returned v ∧ Below x.w.heap.size x.w w') :
    Calls P f args x.w fun e w'' => e = .returned v ∧ ∃ y : Later W0, w'' = y.w :=
  h.mono fun _ w' ⟨he, hb⟩ => ⟨he, ⟨w', x.below.trans (hb.mono x.below.size)⟩, rfl⟩

/-- A slice literal of one and of two parts. -/
def bs1 (t : TypeId) (x : Value) : Sem Next := do pure (.value (← Instr.buildSlice t 1 #[(0, x)]))
def bs2 (t : TypeId) (x y : Value) : Sem Next := do pure (.value (← Instr.buildSlice t 2 #[(0, x), (1, y)]))

theorem ret_bool {a b : Bool} (h : a = b) : Ending.returned (.bool a) = .returned (.bool b) := by rw [h]
theorem ret_int {k : IntKind} {a b : Int} (h : a = b) : Ending.returned (.int k a) = .returned (.int k b) := by rw [h]
end Go.Proofs.Ytgbbhkdaalnchaa
namespace Go.Proofs.Ytgbbhkdaalnchaa
set_option linter.unusedVariables false
set_option linter.unusedSimpArgs false
open Go.RowKit

/-- The slice (A, n) holds the cells xs, each element of so many; it lies below block B. -/
def Rd (w : World) (B size : Nat) (A : Option Addr) (n : Nat) (xs : List Value) : Prop :=
  xs.length = n * size ∧ (0 < n → ∃ b o, A = some ⟨b, o, none⟩ ∧ b < B ∧ ∀ j u, xs[j]? = some u → w.cell? ⟨b, o + j, none⟩ = some u)
theorem addr_add (b o j : Nat) : (⟨b, o, none⟩ : Addr).add j = ⟨b, o + j, none⟩ := by unfold Addr.add; split <;> simp_all
section
variable {w w' : World} {B B' size n : Nat} {A : Option Addr} {xs : List Value}
theorem Rd.nil : Rd w B size A 0 [] := ⟨by simp, fun h => absurd h (by omega)⟩
theorem Rd.below (h : Rd w B size A n xs) (hb : Below B w w') : Rd w' B size A n xs :=
  ⟨h.1, fun hn => by obtain ⟨b, o, e, hlt, hc⟩ := h.2 hn; exact ⟨b, o, e, hlt, fun j u hu => (hb.cell (p := ⟨b, _, none⟩) hlt).trans (hc j u hu)⟩⟩
theorem Rd.mono (h : Rd w B size A n xs) (hB : B ≤ B') : Rd w B' size A n xs :=
  ⟨h.1, fun hn => by obtain ⟨b, o, e, hlt, hc⟩ := h.2 hn; exact ⟨b, o, e, by omega, hc⟩⟩
theorem Rd.next (h : Rd w w.heap.size size A n xs) (hb : Below w.heap.size w w') : Rd w' w'.heap.size size A n xs := (h.below hb).mono hb.size
theorem Rd.of_own {base : Nat} {e : TypeId} {c : Nat} (h : w.ownsRow base e size (.slice A n c) n xs) : Rd w w.heap.size size A n xs := by
  refine ⟨h.1, fun hn => ?_⟩
  rcases h.2 with ⟨_, h0⟩ | ⟨g, cap, cur, hv, hg, hh, _⟩
  · omega
  · have hA : A = some ⟨g, 0, none⟩ := by injection hv
    subst hA
    refine ⟨g, 0, rfl, Blk.lt hh, fun j u hu => ?_⟩
    have := h.cells (g := g) rfl j u hu
    rwa [addr_add] at this
/-- The slice value of a row of the call's own. -/
theorem own_open {base : Nat} {e : TypeId} {v : Value} (h : w.ownsRow base e size v n xs) : ∃ A c, v = .slice A n c ∧ n ≤ c ∧ c ≤ maxLen ∧ Rd w w.heap.size size A n xs := by
  have h0 := h
  rcases h.2 with ⟨rfl, rfl⟩ | ⟨g, cap, cur, rfl, hg, hh, hnc, hcm, _, _⟩
  · exact ⟨none, 0, rfl, Nat.le_refl _, by decide, Rd.of_own h0⟩
  · exact ⟨_, cap, rfl, hnc, hcm, Rd.of_own h0⟩
theorem vrows_rd {L : List Vec} (h : VRows w B A L) : Rd w B 6 A L.length (vcells L) := by
  refine ⟨vcells_length L, fun hn => ?_⟩
  obtain ⟨b, o, e, hlt, hc⟩ := h (List.ne_nil_of_length_pos hn)
  refine ⟨b, o, e, hlt, fun j u hu => ?_⟩
  have hj : j < L.length * 6 := by have := (List.getElem?_eq_some_iff.1 hu).1; rwa [vcells_length] at this
  obtain ⟨v, hv⟩ : ∃ v, L[j / 6]? = some v := ⟨L[j / 6]'(by omega), List.getElem?_eq_getElem (by omega)⟩
  have h1 := hc (j / 6) v hv (j % 6) (by omega)
  have h2 := vcells_get L (j / 6) v hv (j % 6) (by omega)
  rw [show j / 6 * 6 + j % 6 = j from by omega] at h2
  rw [show o + j / 6 * 6 + j % 6 = o + j from by omega] at h1
  rw [hu] at h2
  rw [h1, h2]
theorem rd_vrows {L : List Vec} (h : Rd w B 6 A L.length (vcells L)) : VRows w B A L := fun hL => by
  obtain ⟨b, o, e, hlt, hc⟩ := h.2 (List.length_pos_iff.2 hL)
  refine ⟨b, o, e, hlt, fun i v hi j hj => ?_⟩
  rw [Nat.add_assoc]
  exact hc _ _ (vcells_get L i v hi j hj)
/-- The cells of bytes. -/
def bcells (l : List Int) : List Value := l.map (.int .u8)
theorem bcells_length (l : List Int) : (bcells l).length = l.length := List.length_map _
theorem brows_rd {l : List Int} (h : BRows w B A l) : Rd w B 1 A l.length (bcells l) := by
  refine ⟨by rw [bcells_length, Nat.mul_one], fun hn => ?_⟩
  obtain ⟨b, o, e, hlt, hc⟩ := h (List.ne_nil_of_length_pos hn)
  refine ⟨b, o, e, hlt, fun j u hu => ?_⟩
  unfold bcells at hu
  rw [List.getElem?_map] at hu
  obtain ⟨x, hx, rfl⟩ := Option.map_eq_some_iff.1 hu
  exact hc j x hx
theorem rd_brows {l : List Int} (h : Rd w B 1 A l.length (bcells l)) : BRows w B A l := fun hL => by
  obtain ⟨b, o, e, hlt, hc⟩ := h.2 (List.length_pos_iff.2 hL)
  exact ⟨b, o, e, hlt, fun i x hi => hc i _ (by unfold bcells; rw [List.getElem?_map, hi]; rfl)⟩
end

section
variable {P : Program} (w : World)
/-- append of a whole slice, nil or not, onto a row of the call's own. -/
theorem run_append_rd (base : Nat) (t ty e : TypeId) (i : TypeInfo) (z : Value) (size bytes : Nat) (ht : P.underlying t = some (.slice e)) (hi : P.info? e = some i) (hz : i.zero = some z)
    (hsize : i.size = size) (hby : i.bytes = bytes) (hzs : z.cells.size = size) (hsz : 0 < size)
    (v : Value) (n : Nat) (xs : List Value) (hown : w.ownsRow base e size v n xs) (B : Nat) (A : Option Addr) (m c : Nat) (news : List Value) (hr : Rd w B size A m news) (h1 : ∀ u ∈ news, u.oneCell' = true)
    (h63 : n + m ≤ maxLen) (hbytes : (n + m) * bytes ≤ 140737488355328) (hbase : base ≤ w.heap.size) :
    ∃ v' w', (Builtin.append_ #[t, t] ty #[v, .slice A m c]).run P w = .ok v' w' ∧ w'.ownsRow base e size v' (n + m) (xs ++ news) ∧ Below base w w' := by
  have hgr : ∀ w', w.grownBy w' v.ownBlock → Below base w w' := fun w' hg => (Below.refl _ _).grown hg hbase fun k hk => (hown.lt k hk).1
  by_cases hm : m = 0
  · subst hm
    obtain rfl : news = [] := List.eq_nil_of_length_eq_zero (by simpa using hr.1)
    rcases A with _ | ad
    · refine ⟨v, w, ?_, by simpa using hown, Below.refl _ _⟩
      rcases hown.2 with ⟨rfl, rfl⟩ | ⟨g, cap, cur, rfl, _, _, hnc, _⟩
      · simp [Builtin.append_, run_underlying ht, sizeOf, typeInfo, hi, Builtin.lenOf, Builtin.firstCells]
      · simp [Builtin.append_, run_underlying ht, sizeOf, typeInfo, hi, Builtin.lenOf, Builtin.firstCells, hnc, storeCells]
    · obtain ⟨v', w', hrun, h2, h3, _⟩ := run_append_own (P := P) w base t ty e i z size bytes ht hi hz hsize hby hzs hsz v n xs hown ad 0 c [] (by simp) (fun j u hu => by simp at hu) (fun u hu => by cases hu) h63 hbytes hbase
      exact ⟨v', w', hrun, h2, hgr w' h3⟩
  · obtain ⟨b, o, rfl, hlt, hc⟩ := hr.2 (by omega)
    obtain ⟨v', w', hrun, h2, h3, _⟩ := run_append_own (P := P) w base t ty e i z size bytes ht hi hz hsize hby hzs hsz v n xs hown ⟨b, o, none⟩ m c news hr.1 (fun j u hu => by rw [addr_add]; exact hc j u hu) h1 h63 hbytes hbase
    exact ⟨v', w', hrun, h2, hgr w' h3⟩
theorem wpList_append_rd {ops : Array Oper} {rest : List Oper} {o : Oper} {a : Act} {Q : Exit → Act → World → Prop} (hgd : o.guard = none) (s x : Operand) (t : TypeId)
    (ho : o.op = .call { callee := .builtin .append, args := #[s, x], argTypes := #[t, t] })
    (base : Nat) (e : TypeId) (i : TypeInfo) (z : Value) (size bytes : Nat) (ht : P.underlying t = some (.slice e)) (hi : P.info? e = some i) (hz : i.zero = some z)
    (hsize : i.size = size) (hby : i.bytes = bytes) (hzs : z.cells.size = size) (hsz : 0 < size)
    (v : Value) (n : Nat) (xs : List Value) (hs : a.eval s = v) (hown : w.ownsRow base e size v n xs)
    (B : Nat) (A : Option Addr) (m c : Nat) (news : List Value) (hx : a.eval x = .slice A m c) (hr : Rd w B size A m news) (h1 : ∀ u ∈ news, u.oneCell' = true)
    (h63 : n + m ≤ maxLen) (hbytes : (n + m) * bytes ≤ 140737488355328) (hbase : base ≤ w.heap.size)
    (h : ∀ v' w', w'.ownsRow base e size v' (n + m) (xs ++ news) → Below base w w' → wpList P ops Q rest (a.put o.dst v') w') : wpList P ops Q (o :: rest) a w := by
  obtain ⟨v', w', hrun, h2, h3⟩ := run_append_rd (P := P) w base t o.type e i z size bytes ht hi hz hsize hby hzs hsz v n xs hown B A m c news hr h1 h63 hbytes hbase
  refine wpList_plain hgd fun _ hK => ?_
  unfold Oper.wp execOp
  simp only [ho, resolve, invoke, builtin, Sem.run_bind, Sem.run_pure, Result.andThen_ok, List.map_toArray, List.map_cons, List.map_nil, hs, hx, hrun]
  exact hK _ _ (h v' w' h2 h3)
end

/-- A slice literal of no parts. -/
def bs0 (t : TypeId) : Sem Next := do pure (.value (← Instr.buildSlice t 0 #[]))
section
variable (ρ : Operand → Value) (dst : Option Tmp) (ty t : TypeId) (pos : String) (after : Array Edge) (guard : Option (Nat × Bool))
theorem execOp_bs0 : execOp ρ { dst, op := .buildSlice t 0 #[], type := ty, pos, after, guard } = bs0 t := by simp [execOp, bs0]
end

/-- Block g is none of these. -/
@[reducible] def Nes (g : Nat) : List (Nat × TypeId × Array Value) → Prop
  | [] => True
  | (g', _, _) :: r => g' ≠ g ∧ Nes g r
theorem Nes.out {g : Nat} : ∀ {bs : List (Nat × TypeId × Array Value)}, Nes g bs → ∀ g' t cs, (g', t, cs) ∈ bs → g' ≠ g
  | (_, _, _) :: _, h, _, _, _, hm => by
    rcases List.mem_cons.1 hm with e | hm
    · cases e; exact h.1
    · exact Nes.out h.2 _ _ _ hm
/-- A store into a block that is not among those that are followed. -/
theorem Trk.far {w0 w : World} {bs : List (Nat × TypeId × Array Value)} (h : Trk w0 w bs) {p : Addr} (hB : w0.heap.size ≤ p.block) (hp : Nes p.block bs) (u : Value) : Trk w0 (w.setCell p u) bs :=
  ⟨h.below.setCell hB u, fun g t cs hm => (h.blk _ _ _ hm).far (hp.out g t cs hm) u⟩
/-- A store into the first block that is followed. -/
theorem Trk.set_ {w0 w : World} {g : Nat} {t : TypeId} {cs : Array Value} {bs : List (Nat × TypeId × Array Value)} (h : Trk w0 w ((g, t, cs) :: bs)) (hB : w0.heap.size ≤ g) (hp : Nes g bs) (i : Nat) (u : Value) :
    Trk w0 (w.setCell ⟨g, i, none⟩ u) ((g, t, cs.setIfInBounds i u) :: bs) :=
  ⟨h.below.setCell (p := ⟨g, i, none⟩) hB u, fun g' t' cs' hm => by
    rcases List.mem_cons.1 hm with e | hm
    · cases e; exact (h.blk _ _ _ List.mem_cons_self).set_ i u
    · exact (h.blk _ _ _ (List.mem_cons_of_mem _ hm)).far (p := ⟨g, i, none⟩) (hp.out _ _ _ hm) u⟩
/-- All of these blocks lie below B. -/
@[reducible] def Ltn (B : Nat) : List (Nat × TypeId × Array Value) → Prop
  | [] => True
  | (g, _, _) :: r => g < B ∧ Ltn B r
theorem Ltn.out {B : Nat} : ∀ {bs : List (Nat × TypeId × Array Value)}, Ltn B bs → ∀ g t cs, (g, t, cs) ∈ bs → g < B
  | (_, _, _) :: _, h, _, _, _, hm => by
    rcases List.mem_cons.1 hm with e | hm
    · cases e; exact h.1
    · exact Ltn.out h.2 _ _ _ hm
/-- What leaves all below B alone. -/
theorem Trk.callB {w0 w w1 : World} {bs : List (Nat × TypeId × Array Value)} {B : Nat} (h : Trk w0 w bs) (hb : Below B w w1) (hB : w0.heap.size ≤ B) (hl : Ltn B bs) : Trk w0 w1 bs :=
  ⟨h.below.trans (hb.mono hB), fun g t cs hm => (h.blk _ _ _ hm).below hb (hl.out g t cs hm)⟩
theorem own_mono {w : World} {base base' : Nat} {e : TypeId} {size : Nat} {v : Value} {n : Nat} {xs : List Value} (h : w.ownsRow base' e size v n xs) (hb : base ≤ base') : w.ownsRow base e size v n xs := by
  obtain ⟨h1, h2⟩ := h
  refine ⟨h1, ?_⟩
  rcases h2 with h2 | ⟨g, cap, cur, hv, hg, r⟩
  · exact Or.inl h2
  · exact Or.inr ⟨g, cap, cur, hv, by omega, r⟩
theorem own_far {w : World} {base : Nat} {e : TypeId} {size : Nat} {v : Value} {n : Nat} {xs : List Value} (h : w.ownsRow base e size v n xs) {p : Addr} (hp : p.block < base) (u : Value) : (w.setCell p u).ownsRow base e size v n xs := by
  obtain ⟨h1, h2⟩ := h
  refine ⟨h1, ?_⟩
  rcases h2 with h2 | ⟨g, cap, cur, hv, hg, hh, r⟩
  · exact Or.inl h2
  · exact Or.inr ⟨g, cap, cur, hv, hg, (Below.heap_setCell w p u g (by omega)).trans hh, r⟩
theorem Trk.undrewN {w0 w : World} {bs : List (Nat × TypeId × Array Value)} {n : Nat} (h : Trk w0 (w.drewN n) bs) : Trk w0 w bs :=
  ⟨⟨h.below.os, h.below.tape, h.below.output, h.below.size, h.below.block⟩, h.blk⟩
theorem Trk.perm {w0 w : World} {bs cs : List (Nat × TypeId × Array Value)} (h : Trk w0 w bs) (hp : ∀ x ∈ cs, x ∈ bs) : Trk w0 w cs := ⟨h.below, fun _ _ _ hm => h.blk _ _ _ (hp _ hm)⟩
end Go.Proofs.Ytgbbhkdaalnchaa
namespace Go.Proofs.Ytgbbhkdaalnchaa
set_option linter.unusedVariables false
set_option linter.unusedSimpArgs false
open Go.RowKit

/-- The j-th byte of a number of 64 bits. -/
def byteAt (n : Int) : Nat → Int
  | 0 => n / 72057594037927936 % 256
  | 1 => n / 281474976710656 % 256
  | 2 => n / 1099511627776 % 256
  | 3 => n / 4294967296 % 256
  | 4 => n / 16777216 % 256
  | 5 => n / 65536 % 256
  | 6 => n / 256 % 256
  | _ => n % 256
def wordL (n : Int) : List Int := [byteAt n 0, byteAt n 1, byteAt n 2, byteAt n 3, byteAt n 4, byteAt n 5, byteAt n 6, byteAt n 7]
theorem wordL_length (n : Int) : (wordL n).length = 8 := rfl
theorem eight {P : Nat → Prop} (h0 : P 0) (h1 : P 1) (h2 : P 2) (h3 : P 3) (h4 : P 4) (h5 : P 5) (h6 : P 6) (h7 : P 7) (k : Nat) (h : k < 8) : P k := by
  match k, h with
  | 0, _ => exact h0
  | 1, _ => exact h1
  | 2, _ => exact h2
  | 3, _ => exact h3
  | 4, _ => exact h4
  | 5, _ => exact h5
  | 6, _ => exact h6
  | 7, _ => exact h7
theorem wordL_get (n : Int) (j : Nat) (h : j < 8) : (wordL n)[j]? = some (byteAt n j) :=
  eight (P := fun j => (wordL n)[j]? = some (byteAt n j)) rfl rfl rfl rfl rfl rfl rfl rfl j h
theorem wordL_take (n : Int) (j : Nat) (h : j < 8) : (wordL n).take (j + 1) = (wordL n).take j ++ [byteAt n j] := by
  rw [List.take_add_one, wordL_get n j h]; rfl
/-- What is left when j bytes have been turned to the end. -/
def rotN (n : Int) : Nat → Int
  | 0 => byteAt n 0 * 72057594037927936 + byteAt n 1 * 281474976710656 + byteAt n 2 * 1099511627776 + byteAt n 3 * 4294967296 + byteAt n 4 * 16777216 + byteAt n 5 * 65536 + byteAt n 6 * 256 + byteAt n 7
  | 1 => byteAt n 1 * 72057594037927936 + byteAt n 2 * 281474976710656 + byteAt n 3 * 1099511627776 + byteAt n 4 * 4294967296 + byteAt n 5 * 16777216 + byteAt n 6 * 65536 + byteAt n 7 * 256 + byteAt n 0
  | 2 => byteAt n 2 * 72057594037927936 + byteAt n 3 * 281474976710656 + byteAt n 4 * 1099511627776 + byteAt n 5 * 4294967296 + byteAt n 6 * 16777216 + byteAt n 7 * 65536 + byteAt n 0 * 256 + byteAt n 1
  | 3 => byteAt n 3 * 72057594037927936 + byteAt n 4 * 281474976710656 + byteAt n 5 * 1099511627776 + byteAt n 6 * 4294967296 + byteAt n 7 * 16777216 + byteAt n 0 * 65536 + byteAt n 1 * 256 + byteAt n 2
  | 4 => byteAt n 4 * 72057594037927936 + byteAt n 5 * 281474976710656 + byteAt n 6 * 1099511627776 + byteAt n 7 * 4294967296 + byteAt n 0 * 16777216 + byteAt n 1 * 65536 + byteAt n 2 * 256 + byteAt n 3
  | 5 => byteAt n 5 * 72057594037927936 + byteAt n 6 * 281474976710656 + byteAt n 7 * 1099511627776 + byteAt n 0 * 4294967296 + byteAt n 1 * 16777216 + byteAt n 2 * 65536 + byteAt n 3 * 256 + byteAt n 4
  | 6 => byteAt n 6 * 72057594037927936 + byteAt n 7 * 281474976710656 + byteAt n 0 * 1099511627776 + byteAt n 1 * 4294967296 + byteAt n 2 * 16777216 + byteAt n 3 * 65536 + byteAt n 4 * 256 + byteAt n 5
  | 7 => byteAt n 7 * 72057594037927936 + byteAt n 0 * 281474976710656 + byteAt n 1 * 1099511627776 + byteAt n 2 * 4294967296 + byteAt n 3 * 16777216 + byteAt n 4 * 65536 + byteAt n 5 * 256 + byteAt n 6
  | _ => byteAt n 0 * 72057594037927936 + byteAt n 1 * 281474976710656 + byteAt n 2 * 1099511627776 + byteAt n 3 * 4294967296 + byteAt n 4 * 16777216 + byteAt n 5 * 65536 + byteAt n 6 * 256 + byteAt n 7
def rot8 (x : Int) : Int := x * 256 % 18446744073709551616 + x / 72057594037927936
theorem rot8_lin (x c y : Int) (e : x = 72057594037927936 * c + y) (c0 : 0 ≤ c) (c1 : c ≤ 255) (y0 : 0 ≤ y) (y1 : y < 72057594037927936) : rot8 x = y * 256 + c := by
  subst e; unfold rot8; omega
theorem byteAt_range (n : Int) (j : Nat) : 0 ≤ byteAt n j ∧ byteAt n j ≤ 255 := by
  unfold byteAt
  split <;> omega
theorem bytes_sum (n : Int) (h0 : 0 ≤ n) (h1 : n ≤ 18446744073709551615) : n = byteAt n 0 * 72057594037927936 + byteAt n 1 * 281474976710656 + byteAt n 2 * 1099511627776 + byteAt n 3 * 4294967296 + byteAt n 4 * 16777216 + byteAt n 5 * 65536 + byteAt n 6 * 256 + byteAt n 7 := by
  simp only [byteAt]; omega
theorem rotN_zero (n : Int) (h0 : 0 ≤ n) (h1 : n ≤ 18446744073709551615) : rotN n 0 = n := (bytes_sum n h0 h1).symm
theorem rotN_range (n : Int) (j : Nat) : 0 ≤ rotN n j ∧ rotN n j ≤ 18446744073709551615 := by
  have r0 := byteAt_range n 0
  have r1 := byteAt_range n 1
  have r2 := byteAt_range n 2
  have r3 := byteAt_range n 3
  have r4 := byteAt_range n 4
  have r5 := byteAt_range n 5
  have r6 := byteAt_range n 6
  have r7 := byteAt_range n 7
  unfold rotN
  split <;> omega
theorem rotN_succ (n : Int) (j : Nat) (h : j < 8) : rot8 (rotN n j) = rotN n (j + 1) := by
  have r0 := byteAt_range n 0
  have r1 := byteAt_range n 1
  have r2 := byteAt_range n 2
  have r3 := byteAt_range n 3
  have r4 := byteAt_range n 4
  have r5 := byteAt_range n 5
  have r6 := byteAt_range n 6
  have r7 := byteAt_range n 7
  refine eight (P := fun j => rot8 (rotN n j) = rotN n (j + 1)) ?_ ?_ ?_ ?_ ?_ ?_ ?_ ?_ j h
  · rw [rot8_lin (rotN n 0) (byteAt n 0) (rotN n 0 - byteAt n 0 * 72057594037927936) (by omega) (by omega) (by omega) (by simp only [rotN]; omega) (by simp only [rotN]; omega)]; simp only [rotN]; omega
  · rw [rot8_lin (rotN n 1) (byteAt n 1) (rotN n 1 - byteAt n 1 * 72057594037927936) (by omega) (by omega) (by omega) (by simp only [rotN]; omega) (by simp only [rotN]; omega)]; simp only [rotN]; omega
  · rw [rot8_lin (rotN n 2) (byteAt n 2) (rotN n 2 - byteAt n 2 * 72057594037927936) (by omega) (by omega) (by omega) (by simp only [rotN]; omega) (by simp only [rotN]; omega)]; simp only [rotN]; omega
  · rw [rot8_lin (rotN n 3) (byteAt n 3) (rotN n 3 - byteAt n 3 * 72057594037927936) (by omega) (by omega) (by omega) (by simp only [rotN]; omega) (by simp only [rotN]; omega)]; simp only [rotN]; omega
  · rw [rot8_lin (rotN n 4) (byteAt n 4) (rotN n 4 - byteAt n 4 * 72057594037927936) (by omega) (by omega) (by omega) (by simp only [rotN]; omega) (by simp only [rotN]; omega)]; simp only [rotN]; omega
  · rw [rot8_lin (rotN n 5) (byteAt n 5) (rotN n 5 - byteAt n 5 * 72057594037927936) (by omega) (by omega) (by omega) (by simp only [rotN]; omega) (by simp only [rotN]; omega)]; simp only [rotN]; omega
  · rw [rot8_lin (rotN n 6) (byteAt n 6) (rotN n 6 - byteAt n 6 * 72057594037927936) (by omega) (by omega) (by omega) (by simp only [rotN]; omega) (by simp only [rotN]; omega)]; simp only [rotN]; omega
  · rw [rot8_lin (rotN n 7) (byteAt n 7) (rotN n 7 - byteAt n 7 * 72057594037927936) (by omega) (by omega) (by omega) (by simp only [rotN]; omega) (by simp only [rotN]; omega)]; simp only [rotN]; omega
theorem rotN_byte (n : Int) (j : Nat) (h : j < 8) : rotN n (j + 1) % 256 = byteAt n j := by
  have r0 := byteAt_range n 0
  have r1 := byteAt_range n 1
  have r2 := byteAt_range n 2
  have r3 := byteAt_range n 3
  have r4 := byteAt_range n 4
  have r5 := byteAt_range n 5
  have r6 := byteAt_range n 6
  have r7 := byteAt_range n 7
  refine eight (P := fun j => rotN n (j + 1) % 256 = byteAt n j) ?_ ?_ ?_ ?_ ?_ ?_ ?_ ?_ j h <;> (simp only [rotN]; omega)
theorem byteAt_shr (n : Int) (j : Nat) (h : j < 8) : n / 2 ^ (56 - 8 * j) % 256 = byteAt n j :=
  eight (P := fun j => n / 2 ^ (56 - 8 * j) % 256 = byteAt n j) rfl rfl rfl rfl rfl rfl rfl (by simp [byteAt]) j h

/-- The number of bytes. -/
def numL (l : List Int) : Int := l.foldl (fun n c => n * 256 % 18446744073709551616 + c) 0
theorem numL_snoc (l : List Int) (c : Int) : numL (l ++ [c]) = numL l * 256 % 18446744073709551616 + c := by simp [numL]
theorem numL_range (l : List Int) (h : ∀ c ∈ l, 0 ≤ c ∧ c ≤ 255) : 0 ≤ numL l ∧ numL l ≤ 18446744073709551615 := by
  rcases List.eq_nil_or_concat l with rfl | ⟨r, c, rfl⟩
  · decide
  · rw [List.concat_eq_append] at h ⊢
    rw [numL_snoc]
    have := h c (by simp)
    omega
theorem numL_word (n : Int) (h0 : 0 ≤ n) (h1 : n ≤ 18446744073709551615) : numL (wordL n) = n := by
  simp only [numL, wordL, List.foldl_cons, List.foldl_nil, byteAt]; omega
theorem word_numL (l : List Int) (hl : l.length = 8) (h : ∀ c ∈ l, 0 ≤ c ∧ c ≤ 255) : wordL (numL l) = l := by
  match l, hl with
  | [c0, c1, c2, c3, c4, c5, c6, c7], _ =>
    have a0 := h c0 (by simp)
    have a1 := h c1 (by simp)
    have a2 := h c2 (by simp)
    have a3 := h c3 (by simp)
    have a4 := h c4 (by simp)
    have a5 := h c5 (by simp)
    have a6 := h c6 (by simp)
    have a7 := h c7 (by simp)
    clear h
    have e : numL [c0, c1, c2, c3, c4, c5, c6, c7] = c0 * 72057594037927936 + c1 * 281474976710656 + c2 * 1099511627776 + c3 * 4294967296 + c4 * 16777216 + c5 * 65536 + c6 * 256 + c7 := by
      simp only [numL, List.foldl_cons, List.foldl_nil]; omega
    rw [e]
    simp only [wordL, byteAt]
    congr 1
    · omega
    congr 1
    · omega
    congr 1
    · omega
    congr 1
    · omega
    congr 1
    · omega
    congr 1
    · omega
    congr 1
    · omega
    congr 1
    omega
/-- A vector's bytes. -/
def vecL (v : Vec) : List Int := wordL v.v0 ++ (wordL v.v1 ++ (wordL v.v2 ++ (wordL v.v3 ++ (wordL v.v4 ++ wordL v.v5))))
theorem vecL_length (v : Vec) : (vecL v).length = 48 := rfl
theorem vecL_take (v : Vec) (k : Nat) (h : k < 6) (j : Nat) (hj : j ≤ 8) : (vecL v).take (8 * k + j) = (vecL v).take (8 * k) ++ (wordL (v.get k)).take j := by
  have e : ∀ k, k < 6 → (vecL v).drop (8 * k) = wordL (v.get k) ++ (vecL v).drop (8 * k + 8) := Vec.six (P := fun k => (vecL v).drop (8 * k) = wordL (v.get k) ++ (vecL v).drop (8 * k + 8)) rfl rfl rfl rfl rfl rfl
  rw [List.take_add, e k h, List.take_append_of_le_length (by rw [wordL_length]; exact hj)]
theorem vecL_range (v : Vec) : ∀ c ∈ vecL v, 0 ≤ c ∧ c ≤ 255 := by
  intro c hc
  simp only [vecL, wordL, List.mem_append, List.mem_cons, List.mem_nil_iff, or_false] at hc
  rcases hc with h | h | h | h | h | h <;> rcases h with rfl | rfl | rfl | rfl | rfl | rfl | rfl | rfl <;> exact byteAt_range _ _
/-- The vector that bytes are. -/
def ofL (l : List Int) : Vec := Vec.ofFn fun k => numL ((l.drop (8 * k)).take 8)
theorem ofL_vecL (v : Vec) (hv : v.ok) : ofL (vecL v) = v := Vec.ext_get fun k hk => by
  rw [ofL, Vec.get_ofFn _ k hk]
  have : ((vecL v).drop (8 * k)).take 8 = wordL (v.get k) := Vec.six (P := fun k => ((vecL v).drop (8 * k)).take 8 = wordL (v.get k)) rfl rfl rfl rfl rfl rfl k hk
  rw [this, numL_word _ (hv k hk).1 (hv k hk).2]
theorem vecL_ofL (l : List Int) (hl : l.length = 48) (h : ∀ c ∈ l, 0 ≤ c ∧ c ≤ 255) : vecL (ofL l) = l := by
  have e : ∀ k, k < 6 → wordL ((ofL l).get k) = (l.drop (8 * k)).take 8 := fun k hk => by
    rw [ofL, Vec.get_ofFn _ k hk]
    exact word_numL _ (by rw [List.length_take, List.length_drop, hl]; omega) fun c hc => h c (List.mem_of_mem_drop (List.mem_of_mem_take hc))
  have s : ∀ k, (l.drop (8 * k)).take 8 ++ l.drop (8 * (k + 1)) = l.drop (8 * k) := fun k => by
    rw [show l.drop (8 * (k + 1)) = (l.drop (8 * k)).drop 8 from by rw [List.drop_drop]; congr 1]
    exact List.take_append_drop 8 _
  have e0 := e 0 (by omega)
  have e1 := e 1 (by omega)
  have e2 := e 2 (by omega)
  have e3 := e 3 (by omega)
  have e4 := e 4 (by omega)
  have e5 := e 5 (by omega)
  have t5 : (l.drop (8 * 5)).take 8 = l.drop (8 * 5) := List.take_of_length_le (by rw [List.length_drop, hl]; decide)
  unfold vecL
  simp only [Vec.get] at e0 e1 e2 e3 e4 e5
  rw [e0, e1, e2, e3, e4, e5, t5, s 4, s 3, s 2, s 1, s 0]
  rfl
theorem ofL_ok (l : List Int) (h : ∀ c ∈ l, 0 ≤ c ∧ c ≤ 255) : (ofL l).ok := fun k hk => by
  rw [ofL, Vec.get_ofFn _ k hk]
  exact numL_range _ fun c hc => h c (List.mem_of_mem_drop (List.mem_of_mem_take hc))
theorem numL_take (l : List Int) (k : Nat) (c : Int) (h : l[k]? = some c) : numL (l.take (k + 1)) = numL (l.take k) * 256 % 18446744073709551616 + c := by
  rw [List.take_add_one, h]; exact numL_snoc _ _
theorem bcells_append (l m : List Int) : bcells (l ++ m) = bcells l ++ bcells m := List.map_append
end Go.Proofs.Ytgbbhkdaalnchaa
namespace Go.Proofs.Ytgbbhkdaalnchaa
set_option linter.unusedVariables false
set_option linter.unusedSimpArgs false
open Go.RowKit

/-- An event: origin, number, what was known, kind, node, to, amount, request, of. -/
structure Ev where
  o : Int
  s : Int
  d : Vec
  k : Int
  n : Int
  t : Int
  a : Int
  r : Int
  f : Int
namespace Ev
theorem ext {x y : Ev} (h0 : x.o = y.o) (h1 : x.s = y.s) (h2 : x.d = y.d) (h3 : x.k = y.k) (h4 : x.n = y.n) (h5 : x.t = y.t) (h6 : x.a = y.a) (h7 : x.r = y.r) (h8 : x.f = y.f) : x = y := by
  cases x; cases y; simp_all
instance : DecidableEq Ev := fun x y =>
  decidable_of_iff (x.o = y.o ∧ x.s = y.s ∧ x.d = y.d ∧ x.k = y.k ∧ x.n = y.n ∧ x.t = y.t ∧ x.a = y.a ∧ x.r = y.r ∧ x.f = y.f)
    ⟨fun ⟨h0, h1, h2, h3, h4, h5, h6, h7, h8⟩ => ext h0 h1 h2 h3 h4 h5 h6 h7 h8, fun h => by subst h; simp⟩
def zero : Ev := ⟨0, 0, Vec.zero, 0, 0, 0, 0, 0, 0⟩
/-- The numbers are numbers of their kinds. -/
structure ok (e : Ev) : Prop where
  o : -9223372036854775808 ≤ e.o ∧ e.o ≤ 9223372036854775807
  s : 0 ≤ e.s ∧ e.s ≤ 18446744073709551615
  d : e.d.ok
  k : 0 ≤ e.k ∧ e.k ≤ 255
  n : 0 ≤ e.n ∧ e.n ≤ 18446744073709551615
  t : -9223372036854775808 ≤ e.t ∧ e.t ≤ 9223372036854775807
  a : -9223372036854775808 ≤ e.a ∧ e.a ≤ 9223372036854775807
  r : 0 ≤ e.r ∧ e.r ≤ 18446744073709551615
  f : 0 ≤ e.f ∧ e.f ≤ 18446744073709551615
/-- An event with nothing but its place and kind. -/
def bare (e : Ev) : Ev := ⟨e.o, e.s, e.d, e.k, 0, 0, 0, 0, 0⟩
end Ev
def evA (e : Ev) : Array Value := #[Value.int .i64 e.o, .int .u64 e.s, .int .u64 e.d.v0, .int .u64 e.d.v1, .int .u64 e.d.v2, .int .u64 e.d.v3, .int .u64 e.d.v4, .int .u64 e.d.v5, .int .u8 e.k, .int .u64 e.n, .int .i64 e.t, .int .i64 e.a, .int .u64 e.r, .int .u64 e.f]
theorem evA_size (e : Ev) : (evA e).size = 14 := rfl
theorem evA_toList (e : Ev) : (evA e).toList = [.int .i64 e.o, .int .u64 e.s, .int .u64 e.d.v0, .int .u64 e.d.v1, .int .u64 e.d.v2, .int .u64 e.d.v3, .int .u64 e.d.v4, .int .u64 e.d.v5, .int .u8 e.k, .int .u64 e.n, .int .i64 e.t, .int .i64 e.a, .int .u64 e.r, .int .u64 e.f] := rfl
theorem evA_0 (e : Ev) : (evA e)[0]? = some (.int .i64 e.o) := rfl
theorem evA_1 (e : Ev) : (evA e)[1]? = some (.int .u64 e.s) := rfl
theorem evA_2 (e : Ev) : (evA e)[2]? = some (.int .u64 e.d.v0) := rfl
theorem evA_3 (e : Ev) : (evA e)[3]? = some (.int .u64 e.d.v1) := rfl
theorem evA_4 (e : Ev) : (evA e)[4]? = some (.int .u64 e.d.v2) := rfl
theorem evA_5 (e : Ev) : (evA e)[5]? = some (.int .u64 e.d.v3) := rfl
theorem evA_6 (e : Ev) : (evA e)[6]? = some (.int .u64 e.d.v4) := rfl
theorem evA_7 (e : Ev) : (evA e)[7]? = some (.int .u64 e.d.v5) := rfl
theorem evA_8 (e : Ev) : (evA e)[8]? = some (.int .u8 e.k) := rfl
theorem evA_9 (e : Ev) : (evA e)[9]? = some (.int .u64 e.n) := rfl
theorem evA_10 (e : Ev) : (evA e)[10]? = some (.int .i64 e.t) := rfl
theorem evA_11 (e : Ev) : (evA e)[11]? = some (.int .i64 e.a) := rfl
theorem evA_12 (e : Ev) : (evA e)[12]? = some (.int .u64 e.r) := rfl
theorem evA_13 (e : Ev) : (evA e)[13]? = some (.int .u64 e.f) := rfl
theorem evA_mk (x0 x1 x2 x3 x4 x5 x6 x7 x8 x9 x10 x11 x12 x13 : Int) : #[Value.int .i64 x0, .int .u64 x1, .int .u64 x2, .int .u64 x3, .int .u64 x4, .int .u64 x5, .int .u64 x6, .int .u64 x7, .int .u8 x8, .int .u64 x9, .int .i64 x10, .int .i64 x11, .int .u64 x12, .int .u64 x13] = evA ⟨x0, x1, ⟨x2, x3, x4, x5, x6, x7⟩, x8, x9, x10, x11, x12, x13⟩ := rfl
theorem ev_eta (e : Ev) : (⟨e.o, e.s, e.d, e.k, e.n, e.t, e.a, e.r, e.f⟩ : Ev) = e := rfl
theorem evA_set0 (e : Ev) (x : Int) : (evA e).setIfInBounds 0 (.int .i64 x) = evA ⟨x, e.s, e.d, e.k, e.n, e.t, e.a, e.r, e.f⟩ := rfl
theorem evA_set1 (e : Ev) (x : Int) : (evA e).setIfInBounds 1 (.int .u64 x) = evA ⟨e.o, x, e.d, e.k, e.n, e.t, e.a, e.r, e.f⟩ := rfl
theorem evA_set2 (e : Ev) (x : Int) : (evA e).setIfInBounds 2 (.int .u64 x) = evA ⟨e.o, e.s, ⟨x, e.d.v1, e.d.v2, e.d.v3, e.d.v4, e.d.v5⟩, e.k, e.n, e.t, e.a, e.r, e.f⟩ := rfl
theorem evA_set3 (e : Ev) (x : Int) : (evA e).setIfInBounds 3 (.int .u64 x) = evA ⟨e.o, e.s, ⟨e.d.v0, x, e.d.v2, e.d.v3, e.d.v4, e.d.v5⟩, e.k, e.n, e.t, e.a, e.r, e.f⟩ := rfl
theorem evA_set4 (e : Ev) (x : Int) : (evA e).setIfInBounds 4 (.int .u64 x) = evA ⟨e.o, e.s, ⟨e.d.v0, e.d.v1, x, e.d.v3, e.d.v4, e.d.v5⟩, e.k, e.n, e.t, e.a, e.r, e.f⟩ := rfl
theorem evA_set5 (e : Ev) (x : Int) : (evA e).setIfInBounds 5 (.int .u64 x) = evA ⟨e.o, e.s, ⟨e.d.v0, e.d.v1, e.d.v2, x, e.d.v4, e.d.v5⟩, e.k, e.n, e.t, e.a, e.r, e.f⟩ := rfl
theorem evA_set6 (e : Ev) (x : Int) : (evA e).setIfInBounds 6 (.int .u64 x) = evA ⟨e.o, e.s, ⟨e.d.v0, e.d.v1, e.d.v2, e.d.v3, x, e.d.v5⟩, e.k, e.n, e.t, e.a, e.r, e.f⟩ := rfl
theorem evA_set7 (e : Ev) (x : Int) : (evA e).setIfInBounds 7 (.int .u64 x) = evA ⟨e.o, e.s, ⟨e.d.v0, e.d.v1, e.d.v2, e.d.v3, e.d.v4, x⟩, e.k, e.n, e.t, e.a, e.r, e.f⟩ := rfl
theorem evA_set8 (e : Ev) (x : Int) : (evA e).setIfInBounds 8 (.int .u8 x) = evA ⟨e.o, e.s, e.d, x, e.n, e.t, e.a, e.r, e.f⟩ := rfl
theorem evA_set9 (e : Ev) (x : Int) : (evA e).setIfInBounds 9 (.int .u64 x) = evA ⟨e.o, e.s, e.d, e.k, x, e.t, e.a, e.r, e.f⟩ := rfl
theorem evA_set10 (e : Ev) (x : Int) : (evA e).setIfInBounds 10 (.int .i64 x) = evA ⟨e.o, e.s, e.d, e.k, e.n, x, e.a, e.r, e.f⟩ := rfl
theorem evA_set11 (e : Ev) (x : Int) : (evA e).setIfInBounds 11 (.int .i64 x) = evA ⟨e.o, e.s, e.d, e.k, e.n, e.t, x, e.r, e.f⟩ := rfl
theorem evA_set12 (e : Ev) (x : Int) : (evA e).setIfInBounds 12 (.int .u64 x) = evA ⟨e.o, e.s, e.d, e.k, e.n, e.t, e.a, x, e.f⟩ := rfl
theorem evA_set13 (e : Ev) (x : Int) : (evA e).setIfInBounds 13 (.int .u64 x) = evA ⟨e.o, e.s, e.d, e.k, e.n, e.t, e.a, e.r, x⟩ := rfl
theorem evA_ne_nil (e : Ev) : (evA e = #[]) = False := by simp [evA]
theorem ev_zero : (⟨0, 0, Vec.zero, 0, 0, 0, 0, 0, 0⟩ : Ev) = Ev.zero := rfl
attribute [go_sem] evA_size evA_toList evA_mk ev_eta ev_zero evA_ne_nil evA_0 evA_1 evA_2 evA_3 evA_4 evA_5 evA_6 evA_7 evA_8 evA_9 evA_10 evA_11 evA_12 evA_13 evA_set0 evA_set1 evA_set2 evA_set3 evA_set4 evA_set5 evA_set6 evA_set7 evA_set8 evA_set9 evA_set10 evA_set11 evA_set12 evA_set13
@[go_sem] theorem evzero_o : Ev.zero.o = 0 := rfl
@[go_sem] theorem evzero_s : Ev.zero.s = 0 := rfl
@[go_sem] theorem evzero_d : Ev.zero.d = Vec.zero := rfl
@[go_sem] theorem evzero_k : Ev.zero.k = 0 := rfl
@[go_sem] theorem evzero_n : Ev.zero.n = 0 := rfl
@[go_sem] theorem evzero_t : Ev.zero.t = 0 := rfl
@[go_sem] theorem evzero_a : Ev.zero.a = 0 := rfl
@[go_sem] theorem evzero_r : Ev.zero.r = 0 := rfl
@[go_sem] theorem evzero_f : Ev.zero.f = 0 := rfl

/-- Is a number a region's? -/
def regE (k : Int) : Bool := decide (1 ≤ k) && decide (k ≤ 6)
theorem regE_yes (k : Nat) (h : k < 6) : regE ((k : Int) + 1) = true := by simp [regE]; omega
theorem regE_out {o : Int} (h : regE o = true) : ∃ k : Nat, k < 6 ∧ o = (k : Int) + 1 := by
  simp [regE] at h
  exact ⟨(o - 1).toNat, by omega, by omega⟩
/-- Are all numbers below the greatest? -/
def belowMax (v : Vec) : Bool := decide (v.v0 < 1099511627776 ∧ v.v1 < 1099511627776 ∧ v.v2 < 1099511627776 ∧ v.v3 < 1099511627776 ∧ v.v4 < 1099511627776 ∧ v.v5 < 1099511627776)
theorem belowMax_iff {v : Vec} : belowMax v = true ↔ ∀ k, k < 6 → v.get k < 1099511627776 := by
  unfold belowMax
  rw [decide_eq_true_eq]
  exact ⟨fun ⟨h0, h1, h2, h3, h4, h5⟩ => Vec.six (P := fun k => v.get k < 1099511627776) h0 h1 h2 h3 h4 h5,
    fun h => ⟨h 0 (by omega), h 1 (by omega), h 2 (by omega), h 3 (by omega), h 4 (by omega), h 5 (by omega)⟩⟩
/-- Its place: origin and number. -/
def placeB (e : Ev) : Bool := regE e.o && decide (1 ≤ e.s) && decide (e.s < 1099511627776) && decide (e.d.get (e.o - 1).toNat = e.s - 1) && belowMax e.d
/-- What the kind has. -/
def amountB (least : Int) (e : Ev) : Bool := decide (least ≤ e.a) && decide (e.a ≤ 1125899906842624)
def toB (e : Ev) : Bool := regE e.t && decide (e.t ≠ e.o)
/-- What is left when all is taken away that the kind has; and: may those be? -/
def leftE (e : Ev) : Ev :=
  if e.k = 1 ∨ e.k = 2 then { e with n := 0, a := 0 } else if e.k = 3 then { e with n := 0, a := 0, r := 0 } else if e.k = 4 then { e with r := 0, f := 0 } else if e.k = 5 then { e with n := 0, a := 0, t := 0 } else if e.k = 6 then { e with t := 0 } else e
def fieldsB (e : Ev) : Bool :=
  if e.k = 1 then amountB 0 e else if e.k = 2 then amountB 1 e else if e.k = 3 then amountB 1 e && decide (1 ≤ e.r) else if e.k = 4 then decide (1 ≤ e.r) && decide (1 ≤ e.f) && decide (e.r ≠ e.f) else if e.k = 5 then amountB 1 e && toB e else if e.k = 6 then toB e else decide (e.k = 7)
/-- An event with nothing but what its kind has. -/
def ownE (e : Ev) : Ev :=
  if e.k = 1 ∨ e.k = 2 then { e.bare with n := e.n, a := e.a } else if e.k = 3 then { e.bare with n := e.n, a := e.a, r := e.r } else if e.k = 4 then { e.bare with r := e.r, f := e.f } else if e.k = 5 then { e.bare with n := e.n, a := e.a, t := e.t } else if e.k = 6 then { e.bare with t := e.t } else e.bare
/-- May an event be? -/
def emayB (e : Ev) : Bool := placeB e && (fieldsB e && decide (leftE e = e.bare))
theorem left_own (e : Ev) : (leftE e = e.bare) ↔ (e = ownE e) := by
  obtain ⟨o, s, d, k, n, t, a, r, f⟩ := e
  unfold leftE ownE Ev.bare
  simp only
  split
  · simp only [Ev.mk.injEq, true_and, and_true]
  · split
    · simp only [Ev.mk.injEq, true_and, and_true]
    · split
      · simp only [Ev.mk.injEq, true_and, and_true]
      · split
        · simp only [Ev.mk.injEq, true_and, and_true]
        · split
          · simp only [Ev.mk.injEq, true_and, and_true]
          · exact Iff.rfl
theorem emayB_own (e : Ev) : emayB e = (placeB e && (decide (e = ownE e) && fieldsB e)) := by
  unfold emayB
  have : decide (leftE e = e.bare) = decide (e = ownE e) := by rw [decide_eq_decide]; exact left_own e
  rw [this, Bool.and_comm (fieldsB e)]
end Go.Proofs.Ytgbbhkdaalnchaa
namespace Go.Proofs.Ytgbbhkdaalnchaa
set_option linter.unusedVariables false
set_option linter.unusedSimpArgs false
open Go.RowKit Go

section
variable {P : Program} {ops : Array Oper} {md : Region.Mode} {C : World → Prop} {T : Nat → Option Value} {R : Nat → Value → World → Prop}

/-- It waits for operation number k. -/
def Needs (md : Region.Mode) (o : Oper) (k : Nat) : Prop := ∃ e ∈ o.after, Region.binds md e = true ∧ e.on = k
/-- A value that operation number i may have. -/
def MayBe (T : Nat → Option Value) (i : Nat) (u : Value) : Prop := ∀ v, T i = some v → u = v
theorem mayBe_any (T : Nat → Option Value) (i : Nat) : ∃ u, MayBe T i u := by
  cases h : T i with
  | none => exact ⟨undef, fun v hv => by rw [h] at hv; cases hv⟩
  | some v => exact ⟨v, fun v' hv => by rw [h] at hv; cases hv; rfl⟩
/-- What is asked of an operation, carried out in the world w. -/
def LooseUpon (P : Program) (C : World → Prop) (T : Nat → Option Value) (R : Nat → Value → World → Prop) (i : Nat) (w : World) : Result Next → Prop
  | .ok (.value u) w' => MayBe T i u ∧ C w' ∧ Below w.heap.size w w' ∧ R i u w'
  | .ok (.enter f args) w' => Calls P f args w' fun e w'' => ∃ u, e = .returned u ∧ MayBe T i u ∧ C w'' ∧ Below w.heap.size w w'' ∧ R i u w''
  | _ => False
abbrev Known := Nat → Value → Prop
def Known.ins (i : Nat) (u : Value) (F : Known) : Known := fun j v => (j = i ∧ v = u) ∨ F j v
theorem Known.ins_comm (i j : Nat) (u v : Value) (F : Known) : (F.ins i u).ins j v = (F.ins j v).ins i u := by
  funext k x
  simp only [Known.ins, eq_iff_iff]
  constructor
  · rintro (h | h | h)
    · exact .inr (.inl h)
    · exact .inl h
    · exact .inr (.inr h)
  · rintro (h | h | h)
    · exact .inr (.inl h)
    · exact .inl h
    · exact .inr (.inr h)
def Ob (P : Program) (md : Region.Mode) (C : World → Prop) (T : Nat → Option Value) (R : Nat → Value → World → Prop) (i : Nat) (o : Oper) (a : Act) (F : Known) : Prop :=
  ∀ w, C w → (∀ k u, F k u → Needs md o k → R k u w) → LooseUpon P C T R i w ((execOp a.eval o).run P w)

/-- Operation number i comes up. -/
def lOp (P : Program) (md : Region.Mode) (ops : Array Oper) (C : World → Prop) (T : Nat → Option Value) (R : Nat → Value → World → Prop) (i : Nat) (K : Act → Known → Prop) (a : Act) (F : Known) : Prop :=
  match ops[i]? with
  | none => K a F
  | some o => if Region.wanted o (yielded ops a.tmps) then Ob P md C T R i o a F ∧ ∀ u, MayBe T i u → K (a.put o.dst u) (F.ins i u) else K (a.put o.dst undef) F
theorem lOp_mono {i : Nat} {a : Act} {F : Known} {K K' : Act → Known → Prop} (h : ∀ a F, K a F → K' a F) (hh : lOp P md ops C T R i K a F) : lOp P md ops C T R i K' a F := by
  unfold lOp at *
  split
  · exact h _ _ (by simpa [*] using hh)
  · rename_i o ho
    simp only [ho] at hh
    split
    · rename_i hw; simp only [hw, if_true] at hh; exact ⟨hh.1, fun u hu => h _ _ (hh.2 u hu)⟩
    · rename_i hw; simp only [hw] at hh; exact h _ _ hh

def wpAnyL (P : Program) (md : Region.Mode) (ops : Array Oper) (C : World → Prop) (T : Nat → Option Value) (R : Nat → Value → World → Prop) (Q : Act → Known → Prop) : Nat → Array Bool → Act → Known → Prop
  | 0, listed, a, F => Region.ready md ops listed = [] ∧ Q a F
  | fuel + 1, listed, a, F =>
    (Region.ready md ops listed = [] → Q a F) ∧
    ∀ i ∈ Region.ready md ops listed, lOp P md ops C T R i (wpAnyL P md ops C T R Q fuel (listed.setIfInBounds i true)) a F

theorem wpAny_of_loose {Q : Act → Known → Prop} {Q' : Exit → Act → World → Prop} (hR : ∀ i u w w', R i u w → Below w.heap.size w w' → R i u w') (hQ : ∀ a F w, C w → (∀ k u, F k u → R k u w) → Q a F → Q' .normal a w) :
    ∀ (fuel : Nat) (listed : Array Bool) (a : Act) (F : Known) (w : World), C w → (∀ k u, F k u → R k u w) → wpAnyL P md ops C T R Q fuel listed a F → wpAny P md ops Q' fuel listed a w
  | 0, _, _, _, _, hw, hF, h => ⟨h.1, hQ _ _ _ hw hF h.2⟩
  | fuel + 1, listed, a, F, w, hw, hF, h => by
    refine ⟨fun h0 => hQ _ _ _ hw hF (h.1 h0), fun i hi => ?_⟩
    have h1 := h.2 i hi
    unfold lOp at h1
    unfold wpOp
    split
    · rename_i ho; simp only [ho] at h1; exact wpAny_of_loose hR hQ fuel _ _ _ _ hw hF h1
    · rename_i o ho
      simp only [ho] at h1
      split
      · rename_i hwant
        simp only [hwant, if_true] at h1
        obtain ⟨hob, hk⟩ := h1
        have h2 := hob w hw fun k u hku _ => hF k u hku
        have hins : ∀ u w', Below w.heap.size w w' → R i u w' → ∀ k v, (F.ins i u) k v → R k v w' := fun u w' hb hr k v hkv => by
          rcases hkv with ⟨rfl, rfl⟩ | hkv
          · exact hr
          · exact hR _ _ _ _ (hF k v hkv) hb
        refine .inl ?_
        unfold Oper.wp
        generalize (execOp a.eval o).run P w = r at h2
        cases r with
        | ok n w' =>
          cases n <;> simp only [LooseUpon] at h2 <;> simp only [Oper.upon]
          case value u =>
            obtain ⟨hm, hc, hb, hr⟩ := h2
            exact wpAny_of_loose hR hQ fuel _ _ _ _ hc (hins u w' hb hr) (hk u hm)
          case enter f args =>
            refine h2.mono fun e w'' ⟨u, he, hm, hc, hb, hr⟩ => ?_
            subst he
            exact wpAny_of_loose hR hQ fuel _ _ _ _ hc (hins u w'' hb hr) (hk u hm)
        | halt x w' => simp only [LooseUpon] at h2
      · rename_i hwant
        simp only [hwant] at h1
        exact wpAny_of_loose hR hQ fuel _ _ _ _ hw hF h1

theorem wpAnyL_first {Q : Act → Known → Prop} {i : Nat} {oi : Oper} (hi : ops[i]? = some oi) (hsel : ∀ (j : Nat) (o : Oper) cs b, ops[j]? = some o → o.op ≠ .select cs b) :
    ∀ (fuel : Nat) (listed : Array Bool) (a : Act) (F : Known),
      (∀ j oj, ops[j]? = some oj → j ≠ i → listed.getD j true = false → (∀ e ∈ oj.after, Region.binds md e = true → e.on ≠ i) → oi.apart ops oj = true) →
      i ∈ Region.ready md ops listed → lOp P md ops C T R i (wpAnyL P md ops C T R Q fuel (listed.setIfInBounds i true)) a F → wpAnyL P md ops C T R Q (fuel + 1) listed a F := by
  intro fuel
  induction fuel with
  | zero =>
    intro listed a F _ hr H
    refine ⟨fun h => (by rw [h] at hr; cases hr), fun j hj => ?_⟩
    by_cases hji : j = i
    · subst hji; exact H
    · have h1 := ready_mono hj hji
      have h2 : Region.ready md ops (listed.setIfInBounds i true) = [] := by
        unfold lOp at H
        simp only [hi] at H
        split at H
        · obtain ⟨u, hu⟩ := mayBe_any T i; exact (H.2 u hu).1
        · exact H.1
      rw [h2] at h1
      cases h1
  | succ fuel ih =>
    intro listed a F hfree hr H
    refine ⟨fun h => (by rw [h] at hr; cases hr), fun j hj => ?_⟩
    by_cases hji : j = i
    · subst hji; exact H
    obtain ⟨hjun, oj, hoj, hall⟩ := mem_ready.1 hj
    have hnot : ∀ e ∈ oj.after, Region.binds md e = true → e.on ≠ i := fun e he hb heq => by
      have h1 := hall e he hb
      have h0 := (mem_ready.1 hr).1
      rw [heq] at h1
      rcases Nat.lt_or_ge i listed.size with h' | h'
      · simp [h'] at h0 h1; rw [h0] at h1; cases h1
      · simp [Array.getElem?_eq_none h'] at h1
    have hneed : ¬ Needs md oj i := fun ⟨e, he, hb, heq⟩ => hnot e he hb heq
    have hap := hfree j oj hoj hji hjun hnot
    obtain ⟨p1, p2, p3⟩ := Oper.apart_spec hap
    have hsi := fun cs b => hsel i oi cs b hi
    have hsj := fun cs b => hsel j oj cs b hoj
    have hfree' : ∀ k ok, ops[k]? = some ok → k ≠ i → (listed.setIfInBounds j true).getD k true = false →
        (∀ e ∈ ok.after, Region.binds md e = true → e.on ≠ i) → oi.apart ops ok = true := fun k ok hk hki hun hno => by
      refine hfree k ok hk hki ?_ hno
      by_cases hjk : j = k
      · subst hjk; exact hjun
      · rw [getD_set_ne true hjk] at hun; exact hun
    have hcomm : (listed.setIfInBounds i true).setIfInBounds j true = (listed.setIfInBounds j true).setIfInBounds i true := Array.setIfInBounds_comm _ _ (Ne.symm hji)
    have hrj := ready_mono hj hji
    have hri := ready_mono hr (Ne.symm hji)
    -- what comes of the other one, taken behind this one
    have obj : ∀ u, ∀ F', (∀ k v, F' k v → k = i ∨ F k v) → Ob P md C T R j oj (a.put oi.dst u) F' → Ob P md C T R j oj a F := fun u F' hF' h w hw hf => by
      have := h w hw fun k v hk hn => by
        rcases hF' k v hk with rfl | hk
        · exact absurd hn hneed
        · exact hf k v hk hn
      rwa [execOp_put oj hsj a oi.dst u p1] at this
    have obi : ∀ u F', (∀ k v, F k v → F' k v) → Ob P md C T R i oi a F → Ob P md C T R i oi (a.put oj.dst u) F' := fun u F' hF' h w hw hf => by
      rw [execOp_put oi hsi a oj.dst u p3]
      exact h w hw fun k v hk hn => hf k v (hF' k v hk) hn
    have hinsj : ∀ u k v, F k v → (F.ins j u) k v := fun u k v h => .inr h
    have hinsi : ∀ u k v, (F.ins i u) k v → k = i ∨ F k v := fun u k v h => h.imp And.left id
    unfold lOp at H
    simp only [hi] at H
    unfold lOp
    simp only [hoj]
    split at H
    · rename_i hwi
      obtain ⟨hOi, HK⟩ := H
      have HJ : ∀ u, MayBe T i u → _ := fun u hu => (HK u hu).2 j hrj
      unfold lOp at HJ
      simp only [hoj, wanted_put oj a oi.dst _ p1, hcomm] at HJ
      split
      · rename_i hwj
        simp only [hwj, if_true] at HJ
        obtain ⟨u0, hu0⟩ := mayBe_any T i
        refine ⟨obj u0 _ (hinsi u0) (HJ u0 hu0).1, fun uj huj => ih _ _ _ hfree' hri ?_⟩
        unfold lOp
        simp only [hi, wanted_put oi a oj.dst uj p3, hwi, if_true]
        refine ⟨obi uj _ (hinsj uj) hOi, fun ui hui => ?_⟩
        have := (HJ ui hui).2 uj huj
        rw [Act.put_comm a ui uj p2, Known.ins_comm] at this
        exact this
      · rename_i hwj
        simp only [hwj] at HJ
        refine ih _ _ _ hfree' hri ?_
        unfold lOp
        simp only [hi, wanted_put oi a oj.dst undef p3, hwi, if_true]
        refine ⟨obi undef _ (fun k v h => h) hOi, fun ui hui => ?_⟩
        have := HJ ui hui
        simp only [Bool.false_eq_true, if_false] at this
        rw [Act.put_comm a ui undef p2] at this
        exact this
    · rename_i hwi
      have HJ := H.2 j hrj
      unfold lOp at HJ
      simp only [hoj, wanted_put oj a oi.dst _ p1, hcomm] at HJ
      split
      · rename_i hwj
        simp only [hwj, if_true] at HJ
        refine ⟨obj undef _ (fun k v h => .inr h) HJ.1, fun uj huj => ih _ _ _ hfree' hri ?_⟩
        unfold lOp
        simp only [hi, wanted_put oi a oj.dst uj p3, hwi]
        have := HJ.2 uj huj
        rw [Act.put_comm a undef uj p2] at this
        exact this
      · rename_i hwj
        simp only [hwj] at HJ
        refine ih _ _ _ hfree' hri ?_
        unfold lOp
        simp only [hi, wanted_put oi a oj.dst undef p3, hwi]
        simp only [Bool.false_eq_true, if_false] at HJ ⊢
        rw [Act.put_comm a undef undef p2] at HJ
        exact HJ

/-- THE WALK, in the order of the text. -/
def wpLoose (P : Program) (md : Region.Mode) (ops : Array Oper) (C : World → Prop) (T : Nat → Option Value) (R : Nat → Value → World → Prop) (Q : Act → Known → Prop) : Nat → List Oper → Act → Known → Prop
  | _, [], a, F => Q a F
  | i, o :: rest, a, F => if Region.wanted o (yielded ops a.tmps) then Ob P md C T R i o a F ∧ ∀ u, MayBe T i u → wpLoose P md ops C T R Q (i + 1) rest (a.put o.dst u) (F.ins i u) else wpLoose P md ops C T R Q (i + 1) rest (a.put o.dst undef) F

theorem wpAnyL_lex {Q : Act → Known → Prop} (hs : Region.noSelect ops = true) : ∀ (l : List Oper) (k : Nat) (listed : Array Bool) (a : Act) (F : Known), (∀ j, l[j]? = ops[k + j]?) →
    Region.lexFrom md ops l.length k listed = true → wpLoose P md ops C T R Q k l a F → wpAnyL P md ops C T R Q l.length listed a F
  | [], _, _, _, _, _, hB, h => ⟨by simpa [Region.lexFrom] using hB, h⟩
  | o :: l, k, listed, a, F, hl, hB, h => by
    have h0 : ops[k]? = some o := by simpa using (hl 0).symm
    simp only [List.length_cons, Region.lexFrom, Bool.and_eq_true] at hB
    obtain ⟨⟨hr, hf⟩, hB'⟩ := hB
    refine wpAnyL_first h0 (Region.noSelect_spec hs) l.length listed a F (Region.free_spec h0 hf) (by simpa using hr) ?_
    have hst : lOp P md ops C T R k (wpLoose P md ops C T R Q (k + 1) l) a F := by unfold lOp; simp only [h0]; exact h
    exact lOp_mono (fun a F h => wpAnyL_lex hs l (k + 1) _ _ _ (fun j => by have := hl (j + 1); simpa [Nat.add_assoc, Nat.add_comm 1 j] using this) hB' h) hst

theorem wp_region_loose {id : Nat} {Q : Exit → Act → World → Prop} {a : Act} {w : World} {l : List Oper} (T : Nat → Option Value) (R : Nat → Value → World → Prop) (C : World → Prop)
    (hm : P.follows .mixedOrders = true) (hB : Region.lexB .any l.toArray = true) (hC : C w.drew) (hR : ∀ i u w w', R i u w → Below w.heap.size w w' → R i u w')
    (h : wpLoose P .any l.toArray C T R (fun a' _ => ∀ w', C w' → Q .normal a' w') 0 l a fun _ _ => False) : (Code.region id l.toArray true).wp P Q a w := by
  simp only [Region.lexB, Bool.and_eq_true] at hB
  refine wp_region_any hm (wpAny_of_loose (T := T) (Q := fun a' _ => ∀ w', C w' → Q .normal a' w') hR (fun _ _ w' hw' _ h => h w' hw') _ _ _ (fun _ _ => False) _ hC (fun _ _ h => False.elim h) ?_)
  have := wpAnyL_lex (P := P) (C := C) (T := T) (R := R) (md := .any) hB.1 l 0 (Array.replicate l.length false) a (fun _ _ => False) (by simp) (by simpa using hB.2) h
  simpa using this
theorem wp_region_looseF {id : Nat} {Q : Exit → Act → World → Prop} {a : Act} {w : World} {l : List Oper} (T : Nat → Option Value) (R : Nat → Value → World → Prop) (C : World → Prop)
    (hm : P.follows .mixedOrders = true) (hB : Region.lexB .any l.toArray = true) (hC : C w.drew) (hR : ∀ i u w w', R i u w → Below w.heap.size w w' → R i u w')
    (h : wpLoose P .any l.toArray C T R (fun a' F' => ∀ w', C w' → (∀ k u, F' k u → R k u w') → Q .normal a' w') 0 l a fun _ _ => False) : (Code.region id l.toArray true).wp P Q a w := by
  simp only [Region.lexB, Bool.and_eq_true] at hB
  refine wp_region_any hm (wpAny_of_loose (T := T) (Q := fun a' F' => ∀ w', C w' → (∀ k u, F' k u → R k u w') → Q .normal a' w') hR (fun _ F w' hw' hF h => h w' hw' hF) _ _ _ (fun _ _ => False) _ hC (fun _ _ h => False.elim h) ?_)
  have := wpAnyL_lex (P := P) (C := C) (T := T) (R := R) (md := .any) hB.1 l 0 (Array.replicate l.length false) a (fun _ _ => False) (by simp) (by simpa using hB.2) h
  simpa using this
theorem loose_want {Q : Act → Known → Prop} {i : Nat} {o : Oper} {rest : List Oper} {a : Act} {F : Known} (hw : Region.wanted o (yielded ops a.tmps) = true) (h1 : Ob P md C T R i o a F)
    (h2 : ∀ u, MayBe T i u → wpLoose P md ops C T R Q (i + 1) rest (a.put o.dst u) (F.ins i u)) : wpLoose P md ops C T R Q i (o :: rest) a F := by
  unfold wpLoose; rw [if_pos hw]; exact ⟨h1, h2⟩
end
end Go.Proofs.Ytgbbhkdaalnchaa
namespace Go.Proofs.Ytgbbhkdaalnchaa
set_option linter.unusedVariables false
set_option linter.unusedSimpArgs false
open Go.RowKit Go.BigFrame

/-- What is known of an operation's value: it is just this, or it stands in a relation to the world. -/
inductive En where
  | is (v : Value)
  | rel (r : Value → World → Prop) (h : ∀ u w w', r u w → Below w.heap.size w w' → r u w')
def enT (E : List En) (i : Nat) : Option Value := match E[i]? with
  | some (.is v) => some v
  | _ => none
def enR (E : List En) (i : Nat) (u : Value) (w : World) : Prop := match E[i]? with
  | some (.rel r _) => r u w
  | _ => True
theorem enR_below {E : List En} (i : Nat) (u : Value) (w w' : World) (h : enR E i u w) (hb : Below w.heap.size w w') : enR E i u w' := by
  unfold enR at *
  split
  · rename_i r hr he
    simp only [he] at h
    exact hr _ _ _ h hb
  · trivial
def needB (o : Oper) (k : Nat) : Bool := o.after.toList.any fun e => Region.binds .any e && e.on == k
theorem need_of {o : Oper} {k : Nat} (h : needB o k = true) : Needs .any o k := by
  unfold needB at h
  rw [List.any_eq_true] at h
  obtain ⟨e, he, hb⟩ := h
  simp only [Bool.and_eq_true, beq_iff_eq] at hb
  exact ⟨e, by simpa using he, hb⟩

section
variable {P : Program} {ops : Array Oper} {W : World} {E : List En} {Q : Act → Known → Prop} {i : Nat} {o : Oper} {rest : List Oper} {a : Act} {F : Known}
abbrev Lw (P : Program) (ops : Array Oper) (W : World) (E : List En) (Q : Act → Known → Prop) (i : Nat) (l : List Oper) (a : Act) (F : Known) : Prop :=
  wpLoose P .any ops (fun w => Below W.heap.size W w) (enT E) (enR E) Q i l a F
theorem lw_region {id : Nat} {Q : Exit → Act → World → Prop} {w : World} {l : List Oper} (E : List En) (hm : P.follows .mixedOrders = true) (hB : Region.lexB .any l.toArray = true)
    (h : Lw P l.toArray w E (fun a' _ => ∀ w', Below w.heap.size w w' → Q .normal a' w') 0 l a fun _ _ => False) : (Code.region id l.toArray true).wp P Q a w :=
  wp_region_loose (enT E) (enR E) (fun w' => Below w.heap.size w w') hm hB (Below.refl _ _).drew enR_below h
theorem lw_skip (hw : Region.wanted o (yielded ops a.tmps) = false) (h : Lw P ops W E Q (i + 1) rest (a.put o.dst undef) F) : Lw P ops W E Q i (o :: rest) a F := by
  unfold Lw wpLoose; rw [if_neg (by rw [hw]; exact Bool.false_ne_true)]; exact h
theorem lw_val (hw : Region.wanted o (yielded ops a.tmps) = true) (v : Value) (hE : E[i]? = some (.is v)) (hrun : ∀ w, Below W.heap.size W w → (execOp a.eval o).run P w = .ok (.value v) w)
    (h : Lw P ops W E Q (i + 1) rest (a.put o.dst v) (F.ins i v)) : Lw P ops W E Q i (o :: rest) a F := by
  refine loose_want hw (fun w hC _ => ?_) fun u hu => ?_
  · rw [hrun w hC]
    exact ⟨fun v' hv' => by simp only [enT, hE] at hv'; cases hv'; rfl, hC, Below.refl _ _, by simp only [enR, hE]⟩
  · have := hu v (by simp only [enT, hE])
    subst this
    exact h
theorem lw_move (hw : Region.wanted o (yielded ops a.tmps) = true) (x : Operand) (ho : o.op = .move x) (v : Value) (hE : E[i]? = some (.is v)) (hx : a.eval x = v)
    (h : Lw P ops W E Q (i + 1) rest (a.put o.dst v) (F.ins i v)) : Lw P ops W E Q i (o :: rest) a F :=
  lw_val hw v hE (fun w _ => by rw [run_move x ho, hx]) h
theorem lw_assign (hw : Region.wanted o (yielded ops a.tmps) = true) (x : Operand) (ho : o.op = .assign x) (v : Value) (hE : E[i]? = some (.is v)) (hx : a.eval x = v)
    (h : Lw P ops W E Q (i + 1) rest (a.put o.dst v) (F.ins i v)) : Lw P ops W E Q i (o :: rest) a F :=
  lw_val hw v hE (fun w _ => by unfold execOp; rw [ho]; generalize a.eval = ρ at hx; simp [hx, go_sem]) h
theorem lw_pickF (hw : Region.wanted o (yielded ops a.tmps) = true) (c x y : Operand) (ho : o.op = .pick c x y) (hc : a.eval c = .bool false) (v : Value) (hE : E[i]? = some (.is v)) (hy : a.eval y = v)
    (h : Lw P ops W E Q (i + 1) rest (a.put o.dst v) (F.ins i v)) : Lw P ops W E Q i (o :: rest) a F :=
  lw_val hw v hE (fun w _ => by unfold execOp; rw [ho]; generalize a.eval = ρ at hc hy; simp [hc, hy, go_sem]) h
theorem lw_pickT (hw : Region.wanted o (yielded ops a.tmps) = true) (c x y : Operand) (ho : o.op = .pick c x y) (hc : a.eval c = .bool true) (v : Value) (hE : E[i]? = some (.is v)) (hy : a.eval x = v)
    (h : Lw P ops W E Q (i + 1) rest (a.put o.dst v) (F.ins i v)) : Lw P ops W E Q i (o :: rest) a F :=
  lw_val hw v hE (fun w _ => by unfold execOp; rw [ho]; generalize a.eval = ρ at hc hy; simp [hc, hy, go_sem]) h
/-- An operation on two values that leaves the world alone. -/
theorem lw_bin (hw : Region.wanted o (yielded ops a.tmps) = true) (b : BinOp) (t t' : TypeId) (x y : Operand) (ho : o.op = .binOp b t x y t') (vx vy : Value) (hx : a.eval x = vx) (hy : a.eval y = vy) (v : Value) (hE : E[i]? = some (.is v))
    (hrun : ∀ (ρ : Operand → Value) (w : World), ρ x = vx → ρ y = vy → (execOp ρ o).run P w = .ok (.value v) w)
    (h : Lw P ops W E Q (i + 1) rest (a.put o.dst v) (F.ins i v)) : Lw P ops W E Q i (o :: rest) a F :=
  lw_val hw v hE (fun w _ => hrun a.eval w hx hy) h
/-- A call that answers a fixed value. -/
theorem lw_call (hw : Region.wanted o (yielded ops a.tmps) = true) (f : FuncId) (args : Array Value) (v : Value) (hE : E[i]? = some (.is v)) (he : ∀ w, (execOp a.eval o).run P w = .ok (.enter f args) w)
    (c : ∀ w, Below W.heap.size W w → Calls P f args w fun e w' => e = .returned v ∧ Below w.heap.size w w')
    (h : Lw P ops W E Q (i + 1) rest (a.put o.dst v) (F.ins i v)) : Lw P ops W E Q i (o :: rest) a F := by
  refine loose_want hw (fun w hC _ => ?_) fun u hu => ?_
  · rw [he w]
    refine (c w hC).mono ?_
    rintro e w' ⟨rfl, hb⟩
    exact ⟨_, rfl, fun v' hv' => by simp only [enT, hE] at hv'; cases hv'; rfl, hC.trans (hb.mono hC.size), hb, by simp only [enR, hE]⟩
  · have := hu v (by simp only [enT, hE])
    subst this
    exact h
/-- A call that answers a value of which a relation is known. -/
theorem lw_call_rel (hw : Region.wanted o (yielded ops a.tmps) = true) (f : FuncId) (args : Array Value) (r : Value → World → Prop) (hr) (hE : E[i]? = some (.rel r hr)) (he : ∀ w, (execOp a.eval o).run P w = .ok (.enter f args) w)
    (c : ∀ w, Below W.heap.size W w → Calls P f args w fun e w' => ∃ u, e = .returned u ∧ r u w' ∧ Below w.heap.size w w')
    (h : ∀ u, Lw P ops W E Q (i + 1) rest (a.put o.dst u) (F.ins i u)) : Lw P ops W E Q i (o :: rest) a F := by
  refine loose_want hw (fun w hC _ => ?_) fun u _ => h u
  rw [he w]
  refine (c w hC).mono ?_
  rintro e w' ⟨u, rfl, hru, hb⟩
  exact ⟨_, rfl, fun v' hv' => (by simp only [enT, hE] at hv'; cases hv'), hC.trans (hb.mono hC.size), hb, by simp only [enR, hE]; exact hru⟩
/-- A move of a value of which a relation is known. -/
theorem lw_move_rel (hw : Region.wanted o (yielded ops a.tmps) = true) (x : Operand) (ho : o.op = .move x) (k : Nat) (z : Value) (hx : a.eval x = z) (hk : needB o k = true) (hF : F k z) (r : Value → World → Prop) (hr) (hEk : E[k]? = some (.rel r hr)) (hE : E[i]? = some (.rel r hr))
    (h : ∀ u, Lw P ops W E Q (i + 1) rest (a.put o.dst u) (F.ins i u)) : Lw P ops W E Q i (o :: rest) a F := by
  refine loose_want hw (fun w hC hR => ?_) fun u _ => h u
  have : r z w := by have := hR k z hF (need_of hk); simpa only [enR, hEk] using this
  rw [run_move x ho, hx]
  exact ⟨fun v' hv' => (by simp only [enT, hE] at hv'; cases hv'), hC, Below.refl _ _, by simp only [enR, hE]; exact this⟩
/-- An operation that reads a value of which a relation is known, and gives a fixed one. -/
theorem lw_read (hw : Region.wanted o (yielded ops a.tmps) = true) (k : Nat) (z : Value) (hk : needB o k = true) (hF : F k z) (r : Value → World → Prop) (hr) (hEk : E[k]? = some (.rel r hr)) (v : Value) (hE : E[i]? = some (.is v))
    (hrun : ∀ w, Below W.heap.size W w → r z w → (execOp a.eval o).run P w = .ok (.value v) w)
    (h : Lw P ops W E Q (i + 1) rest (a.put o.dst v) (F.ins i v)) : Lw P ops W E Q i (o :: rest) a F := by
  refine loose_want hw (fun w hC hR => ?_) fun u hu => ?_
  · have : r z w := by have := hR k z hF (need_of hk); simpa only [enR, hEk] using this
    rw [hrun w hC this]
    exact ⟨fun v' hv' => by simp only [enT, hE] at hv'; cases hv'; rfl, hC, Below.refl _ _, by simp only [enR, hE]⟩
  · have := hu v (by simp only [enT, hE])
    subst this
    exact h
/-- A call that takes a value of which a relation is known, and answers a fixed one. -/
theorem lw_call_of (hw : Region.wanted o (yielded ops a.tmps) = true) (k : Nat) (z : Value) (hk : needB o k = true) (hF : F k z) (r : Value → World → Prop) (hr) (hEk : E[k]? = some (.rel r hr)) (f : FuncId) (args : Array Value) (v : Value) (hE : E[i]? = some (.is v))
    (he : ∀ w, (execOp a.eval o).run P w = .ok (.enter f args) w)
    (c : ∀ w, Below W.heap.size W w → r z w → Calls P f args w fun e w' => e = .returned v ∧ Below w.heap.size w w')
    (h : Lw P ops W E Q (i + 1) rest (a.put o.dst v) (F.ins i v)) : Lw P ops W E Q i (o :: rest) a F := by
  refine loose_want hw (fun w hC hR => ?_) fun u hu => ?_
  · have : r z w := by have := hR k z hF (need_of hk); simpa only [enR, hEk] using this
    rw [he w]
    refine (c w hC this).mono ?_
    rintro e w' ⟨rfl, hb⟩
    exact ⟨_, rfl, fun v' hv' => by simp only [enT, hE] at hv'; cases hv'; rfl, hC.trans (hb.mono hC.size), hb, by simp only [enR, hE]⟩
  · have := hu v (by simp only [enT, hE])
    subst this
    exact h
/-- A new thing is made of fixed values. -/
theorem lw_new (hw : Region.wanted o (yielded ops a.tmps) = true) (r : Value → World → Prop) (hr) (hE : E[i]? = some (.rel r hr)) (hrun : ∀ w, Below W.heap.size W w → ∃ u w', (execOp a.eval o).run P w = .ok (.value u) w' ∧ Below w.heap.size w w' ∧ r u w')
    (h : ∀ u, Lw P ops W E Q (i + 1) rest (a.put o.dst u) (F.ins i u)) : Lw P ops W E Q i (o :: rest) a F := by
  refine loose_want hw (fun w hC _ => ?_) fun u _ => h u
  obtain ⟨u, w', e, hb, hru⟩ := hrun w hC
  rw [e]
  exact ⟨fun v' hv' => (by simp only [enT, hE] at hv'; cases hv'), hC.trans (hb.mono hC.size), hb, by simp only [enR, hE]; exact hru⟩
end

/-- A slice that reads as bytes. -/
def BytesIs (l : List Int) (u : Value) (w : World) : Prop := ∃ A c, u = .slice A l.length c ∧ l.length ≤ c ∧ c ≤ maxLen ∧ BRows w w.heap.size A l
theorem BytesIs.keep (l : List Int) (u : Value) (w w' : World) (h : BytesIs l u w) (hb : Below w.heap.size w w') : BytesIs l u w' := by
  obtain ⟨A, c, e, h1, h2, hr⟩ := h
  refine ⟨A, c, e, h1, h2, fun hl => ?_⟩
  obtain ⟨b, o, e, hlt, hc⟩ := (hr.below hb) hl
  exact ⟨b, o, e, Nat.lt_of_lt_of_le hlt hb.size, hc⟩
abbrev En.bytes (l : List Int) : En := .rel (BytesIs l) (BytesIs.keep l)
theorem BytesIs.of_own {w : World} {base : Nat} {e : TypeId} {v : Value} {l : List Int} (h : w.ownsRow base e 1 v l.length (bcells l)) : BytesIs l v w := by
  obtain ⟨A, c, rfl, h1, h2, hR⟩ := own_open h
  exact ⟨A, c, rfl, h1, h2, rd_brows hR⟩
theorem run_conv_bytes {P : Program} (src e dst : TypeId) (hs : P.underlying src = some (.slice e)) (he : P.underlying e = some (.int .u8)) (hd : P.underlying dst = some .string) {l : List Int} {u : Value} {w : World} (h : BytesIs l u w) :
    (convert src dst u).run P w = .ok (.string (strOfNums l)) w := by
  obtain ⟨A, c, rfl, h1, h2, hr⟩ := h
  rcases l with _ | ⟨x, l⟩
  · rcases A with _ | ad
    · rw [List.length_nil, run_convert_bytes_nil w src e hs he 0 c dst hd]
      rfl
    · rw [run_convert_bytes_string w src dst e _ _ c hs he hd]
      exact run_bytesToString w ad 0 c [] (by simp [loadCells, loadCellsFrom])
  · obtain ⟨b, o, rfl, hlt, hc⟩ := hr (by simp)
    exact run_convert_bytes_arg w src e hs he b o _ c (x :: l) rfl (fun i hi => by
      rw [hc i _ (List.getElem?_eq_getElem hi), List.getD_eq_getElem?_getD, List.getElem?_eq_getElem hi]; rfl) dst hd
theorem str_inj {l m : List Int} (hl : ∀ c ∈ l, 0 ≤ c ∧ c ≤ 255) (hm : ∀ c ∈ m, 0 ≤ c ∧ c ≤ 255) (h : strOfNums l = strOfNums m) : l = m := by
  have h1 : l.map (fun n => UInt8.ofNat n.toNat) = m.map fun n => UInt8.ofNat n.toNat := by
    have := congrArg (fun b => b.data.toList) h
    simpa [strOfNums_data] using this
  clear h
  induction l generalizing m with
  | nil => cases m with
    | nil => rfl
    | cons y m => cases h1
  | cons x l ih => cases m with
    | nil => cases h1
    | cons y m =>
      simp only [List.map_cons, List.cons.injEq] at h1
      obtain ⟨e, h1⟩ := h1
      have := hl x List.mem_cons_self
      have := hm y List.mem_cons_self
      have e2 := congrArg UInt8.toNat e
      simp at e2
      rw [Nat.mod_eq_of_lt (by omega), Nat.mod_eq_of_lt (by omega)] at e2
      rw [ih (fun c hc => hl c (List.mem_cons_of_mem _ hc)) (fun c hc => hm c (List.mem_cons_of_mem _ hc)) h1, show x = y from by omega]
theorem str_eq {l m : List Int} (hl : ∀ c ∈ l, 0 ≤ c ∧ c ≤ 255) (hm : ∀ c ∈ m, 0 ≤ c ∧ c ≤ 255) : strOfNums l = strOfNums m ↔ l = m := ⟨str_inj hl hm, fun h => by rw [h]⟩
end Go.Proofs.Ytgbbhkdaalnchaa
namespace Go.Proofs.Ytgbbhkdaalnchaa
set_option linter.unusedVariables false
set_option linter.unusedSimpArgs false
open Go.RowKit Go

/-- What holds at the end of the first operations. -/
def preQ (Q : Exit → Act → World → Prop) (K : Act → World → Prop) : Exit → Act → World → Prop
  | .normal, a, w => K a w
  | x, a, w => Q x a w
def forcedB (md : Region.Mode) (ops : Array Oper) : Nat → Nat → Array Bool → Bool
  | 0, _, _ => true
  | n + 1, k, listed => (Region.ready md ops listed == [k]) && forcedB md ops n (k + 1) (listed.setIfInBounds k true)
def listedN : Nat → Nat → Array Bool → Array Bool
  | 0, _, listed => listed
  | n + 1, k, listed => listedN n (k + 1) (listed.setIfInBounds k true)
section
variable {P : Program} {ops : Array Oper} {md : Region.Mode} {Q : Exit → Act → World → Prop}
theorem upon_pre {o : Oper} {a : Act} {next : Act → World → Prop} {K : Act → World → Prop} (r : Result Next) (h : o.upon P a next (preQ Q K) r) : o.upon P a next Q r := by
  cases r with
  | ok n w =>
    cases n with
    | enter f args =>
      refine Calls.mono (show Calls P f args w _ from h) ?_
      intro e w' h
      cases e <;> exact h
    | _ => exact h
  | halt x w => cases x <;> exact h
theorem wpAny_pre {K : Act → World → Prop} : ∀ (n k : Nat) (listed : Array Bool) (l : List Oper) (a : Act) (w : World) (fuel : Nat), (∀ a w, K a w → wpAny P md ops Q fuel (listedN n k listed) a w) → l.length = n → (∀ j, j < n → l[j]? = ops[k + j]?) → forcedB md ops n k listed = true →
    wpList P ops (preQ Q K) l a w → wpAny P md ops Q (n + fuel) listed a w
  | 0, k, listed, l, a, w, fuel, hK, hl, _, _, h => by
    obtain rfl : l = [] := List.eq_nil_of_length_eq_zero hl
    rw [Nat.zero_add]
    exact hK _ _ h
  | n + 1, k, listed, l, a, w, fuel, hK, hl, hj, hf, h => by
    obtain ⟨o, l, rfl⟩ : ∃ o r, l = o :: r := by
      cases l with
      | nil => cases hl
      | cons o r => exact ⟨o, r, rfl⟩
    simp only [forcedB, Bool.and_eq_true, beq_iff_eq] at hf
    have h0 : ops[k]? = some o := by simpa using (hj 0 (by omega)).symm
    rw [show n + 1 + fuel = (n + fuel) + 1 from by omega]
    refine ⟨fun h => (by rw [hf.1] at h; cases h), fun i hi => ?_⟩
    rw [hf.1] at hi
    obtain rfl : i = k := by simpa using hi
    have ih := fun a w => wpAny_pre n (i + 1) (listed.setIfInBounds i true) l a w fuel hK (by simpa using hl) (fun j hjn => by have := hj (j + 1) (by omega); simpa [Nat.add_assoc, Nat.add_comm 1 j] using this) hf.2
    unfold wpOp
    simp only [h0]
    unfold wpList at h
    split at h
    · rename_i hw
      rw [if_pos hw]
      rcases h with h | ⟨h1, h2⟩
      · exact .inl (Oper.wp_mono ih (upon_pre _ h))
      · exact .inr ⟨h1, h2⟩
    · rename_i hw
      rw [if_neg hw]
      exact ih _ _ h
/-- What is owed behind the first operations: the loose walk of the others. -/
structure PreK (P : Program) (ops : Array Oper) (Q : Exit → Act → World → Prop) (n : Nat) (r : List Oper) (a : Act) (w1 : World) : Prop where
  out : ∃ E, Lw P ops w1 E (fun a' _ => ∀ w', Below w1.heap.size w1 w' → Q .normal a' w') n r a (fun _ _ => False)
theorem preK {n : Nat} {r : List Oper} {a : Act} {w1 : World} (E : List En) (h : Lw P ops w1 E (fun a' _ => ∀ w', Below w1.heap.size w1 w' → Q .normal a' w') n r a (fun _ _ => False)) : preQ Q (PreK P ops Q n r) .normal a w1 := ⟨⟨E, h⟩⟩
/-- The first n operations in their one order, then the others by the loose walk. -/
theorem wp_region_pre {id : Nat} {Q : Exit → Act → World → Prop} {a : Act} {w : World} {l : List Oper} (n : Nat) (hm : P.follows .mixedOrders = true) (hs : Region.noSelect l.toArray = true) (hn : n ≤ l.length)
    (hF : forcedB .any l.toArray n 0 (Array.replicate l.length false) = true) (hB : Region.lexFrom .any l.toArray (l.drop n).length n (listedN n 0 (Array.replicate l.length false)) = true)
    (h : wpList P l.toArray (preQ Q (PreK P l.toArray Q n (l.drop n))) (l.take n) a w.drew) : (Code.region id l.toArray true).wp P Q a w := by
  refine wp_region_any hm ?_
  have hK : ∀ a w1, PreK P l.toArray Q n (l.drop n) a w1 → wpAny P .any l.toArray Q (l.drop n).length (listedN n 0 (Array.replicate l.length false)) a w1 := fun a w1 ⟨⟨E, hE⟩⟩ =>
    wpAny_of_loose (T := enT E) (Q := fun a' _ => ∀ w', Below w1.heap.size w1 w' → Q .normal a' w') enR_below (fun _ _ w' hw' _ h => h w' hw') _ _ _ (fun _ _ => False) _ (Below.refl _ _) (fun _ _ h => False.elim h)
      (wpAnyL_lex hs (l.drop n) n _ a _ (fun j => by simp) hB hE)
  have h2 := wpAny_pre (md := .any) n 0 (Array.replicate l.length false) (l.take n) a w.drew (l.drop n).length hK (by simp; omega) (fun j hj => by simp [hj]) hF h
  rw [List.length_drop, Nat.add_sub_cancel' hn] at h2
  simpa using h2
/-- What is owed behind the first operations, where the others read and call alone. -/
structure PreL (P : Program) (ops : Array Oper) (Q : Exit → Act → World → Prop) (r : List Oper) (a : Act) (w1 : World) : Prop where
  out : wpQuiet P ops (fun w' => ∃ x : Later w1, w' = x.w) (fun a' => ∀ w', (∃ x : Later w1, w' = x.w) → Q .normal a' w') r a
theorem preL {r : List Oper} {a : Act} {w1 : World} (h : wpQuiet P ops (fun w' => ∃ x : Later w1, w' = x.w) (fun a' => ∀ w', (∃ x : Later w1, w' = x.w) → Q .normal a' w') r a) : preQ Q (PreL P ops Q r) .normal a w1 := ⟨h⟩
theorem wp_region_preq {id : Nat} {Q : Exit → Act → World → Prop} {a : Act} {w : World} {l : List Oper} (n : Nat) (hm : P.follows .mixedOrders = true) (hs : Region.noSelect l.toArray = true) (hn : n ≤ l.length)
    (hF : forcedB .any l.toArray n 0 (Array.replicate l.length false) = true) (hB : Region.lexFrom .any l.toArray (l.drop n).length n (listedN n 0 (Array.replicate l.length false)) = true)
    (h : wpList P l.toArray (preQ Q (PreL P l.toArray Q (l.drop n))) (l.take n) a w.drew) : (Code.region id l.toArray true).wp P Q a w := by
  refine wp_region_any hm ?_
  have hK : ∀ a w1, PreL P l.toArray Q (l.drop n) a w1 → wpAny P .any l.toArray Q (l.drop n).length (listedN n 0 (Array.replicate l.length false)) a w1 := fun a w1 ⟨hE⟩ =>
    wpAny_of_quiet (Q := fun a' => ∀ w', (∃ x : Later w1, w' = x.w) → Q .normal a' w') (fun _ w' hw' h => h w' hw') _ _ _ _ ⟨⟨w1, Below.refl _ _⟩, rfl⟩
      (wpAnyQ_lex hs (l.drop n) n _ a (fun j => by simp) hB hE)
  have h2 := wpAny_pre (md := .any) n 0 (Array.replicate l.length false) (l.take n) a w.drew (l.drop n).length hK (by simp; omega) (fun j hj => by simp [hj]) hF h
  rw [List.length_drop, Nat.add_sub_cancel' hn] at h2
  simpa using h2
end
end Go.Proofs.Ytgbbhkdaalnchaa
namespace Go.Proofs.Ytgbbhkdaalnchaa
set_option linter.unusedVariables false
set_option linter.unusedSimpArgs false
open Go.RowKit Go

/-- Operation number i waits for number k, itself or through others. -/
def ancB (md : Region.Mode) (ops : Array Oper) (k : Nat) : Nat → Nat → Bool
  | 0, _ => false
  | f + 1, i => ((ops[i]?).map fun o => o.after.toList.any fun e => Region.binds md e && (e.on == k || ancB md ops k f e.on)).getD false
/-- The first n operations have no guard and wait for earlier ones alone; each other one waits for all of them. -/
def postB (md : Region.Mode) (ops : Array Oper) (n : Nat) : Bool :=
  ((List.range n).all fun i => ((ops[i]?).map fun o => o.guard.isNone && o.after.toList.all fun e => !Region.binds md e || decide (e.on < i)).getD false) &&
  ((List.range ops.size).all fun i => decide (i < n) || (List.range n).all fun k => ancB md ops k ops.size i)
theorem postB_head {md : Region.Mode} {ops : Array Oper} {n i : Nat} (h : postB md ops n = true) (hi : i < n) : ∃ o, ops[i]? = some o ∧ o.guard = none ∧ ∀ e ∈ o.after, Region.binds md e = true → e.on < i := by
  simp only [postB, Bool.and_eq_true, List.all_eq_true, List.mem_range] at h
  have h1 := h.1 i hi
  cases ho : ops[i]? with
  | none => rw [ho] at h1; cases h1
  | some o =>
    rw [ho] at h1
    simp only [Option.map_some, Option.getD_some, Bool.and_eq_true, List.all_eq_true, Bool.or_eq_true, Bool.not_eq_true', decide_eq_true_eq, Option.isNone_iff_eq_none] at h1
    refine ⟨o, rfl, h1.1, fun e he hb => ?_⟩
    rcases h1.2 e (by simpa using he) with h2 | h2
    · rw [h2] at hb; cases hb
    · exact h2
theorem postB_tail {md : Region.Mode} {ops : Array Oper} {n i k : Nat} (h : postB md ops n = true) (hi : i < ops.size) (hni : n ≤ i) (hk : k < n) : ancB md ops k ops.size i = true := by
  simp only [postB, Bool.and_eq_true, List.all_eq_true, List.mem_range, Bool.or_eq_true, decide_eq_true_eq] at h
  rcases h.2 i hi with h2 | h2
  · omega
  · exact h2 k hk
/-- What is listed has all that it waits for listed. -/
def DownB (md : Region.Mode) (ops : Array Oper) (LS : Array Bool) : Prop := ∀ j o, ops[j]? = some o → LS.getD j false = true → ∀ e ∈ o.after, Region.binds md e = true → LS.getD e.on false = true
theorem anc_listed {md : Region.Mode} {ops : Array Oper} {LS : Array Bool} {k : Nat} (hD : DownB md ops LS) : ∀ (f i : Nat), ancB md ops k f i = true → (∀ o, ops[i]? = some o → ∀ e ∈ o.after, Region.binds md e = true → LS.getD e.on false = true) → LS.getD k false = true
  | 0, _, h, _ => by cases h
  | f + 1, i, h, hi => by
    unfold ancB at h
    cases ho : ops[i]? with
    | none => rw [ho] at h; cases h
    | some o =>
      rw [ho] at h
      simp only [Option.map_some, Option.getD_some, List.any_eq_true, Bool.and_eq_true, Bool.or_eq_true, beq_iff_eq] at h
      obtain ⟨e, he, hb, h2⟩ := h
      have hl := hi o ho e (by simpa using he) hb
      rcases h2 with h2 | h2
      · rw [← h2]; exact hl
      · exact anc_listed hD f e.on h2 fun o' ho' e' he' hb' => hD e.on o' ho' hl e' he' hb'
theorem rep_getD (n i : Nat) : (Array.replicate n false).getD i false = false := by
  rw [Array.getD_eq_getD_getElem?, Array.getElem?_replicate]
  split <;> rfl
theorem listedN_size : ∀ (n k : Nat) (A : Array Bool), (listedN n k A).size = A.size
  | 0, _, _ => rfl
  | n + 1, k, A => by rw [listedN, listedN_size n]; simp
theorem listedN_get : ∀ (n k i : Nat) (A : Array Bool), i < A.size → (listedN n k A).getD i false = if k ≤ i ∧ i < k + n then true else A.getD i false
  | 0, k, i, A, _ => by rw [if_neg (by omega)]; rfl
  | n + 1, k, i, A, hi => by
    rw [listedN, listedN_get n (k + 1) i _ (by simpa using hi)]
    by_cases hk : k = i
    · subst hk
      rw [if_neg (by omega), if_pos (by omega)]
      simp [hi]
    · rw [getD_set_ne false hk]
      by_cases h : k + 1 ≤ i ∧ i < k + 1 + n
      · rw [if_pos h, if_pos (by omega)]
      · rw [if_neg h, if_neg (by omega)]
theorem count_set_true : ∀ (l : List Bool) (i : Nat), l[i]? = some false → (l.set i true).count false + 1 = l.count false
  | [], i, h => by simp at h
  | b :: l, 0, h => by
    simp at h
    subst h
    simp
  | b :: l, i + 1, h => by
    have := count_set_true l i (by simpa using h)
    rw [List.set_cons_succ, List.count_cons, List.count_cons]
    omega
section
variable {P : Program} {md : Region.Mode} {Q : Exit → Act → World → Prop}
theorem wpAny_trunc {l : List Oper} {n m : Nat} (hn : n ≤ l.length) (hP : postB md l.toArray n = true) {K : Act → World → Prop} (hK : ∀ a w, K a w → wpAny P md l.toArray Q m (listedN n 0 (Array.replicate l.length false)) a w) : ∀ (fuel : Nat) (ls LS : Array Bool) (a : Act) (w : World),
    ls.size = n → LS.size = l.length → (∀ i, i < n → ls.getD i false = LS.getD i false) → (∀ i, n ≤ i → LS.getD i false = false) → DownB md l.toArray LS → ls.toList.count false = fuel →
    wpAny P md (l.take n).toArray (preQ Q K) fuel ls a w → wpAny P md l.toArray Q (fuel + m) LS a w
  | 0, ls, LS, a, w, s1, s2, hE, hT, hD, hc, h => by
    have e : LS = listedN n 0 (Array.replicate l.length false) := by
      refine Array.ext (by rw [listedN_size, s2]; simp) fun i h1 h2 => ?_
      have g := listedN_get n 0 i (Array.replicate l.length false) (by simpa using s2 ▸ h1)
      have g1 : LS.getD i false = LS[i] := by simp [h1]
      have g2 : (listedN n 0 (Array.replicate l.length false)).getD i false = (listedN n 0 (Array.replicate l.length false))[i] := by simp [h2]
      rw [← g1, ← g2, g]
      by_cases hi : i < n
      · rw [if_pos (by omega), ← hE i hi]
        have hz : false ∉ ls.toList := List.count_eq_zero.1 hc
        have hz2 : ls[i]'(by omega) ≠ false := fun hh => hz (by rw [← hh]; simp)
        simp [s1, hi]
        simpa using hz2
      · rw [if_neg (by omega), hT i (by omega)]
        simp [← s2, h1]
    rw [Nat.zero_add, e]
    exact hK a w h.2
  | k + 1, ls, LS, a, w, s1, s2, hE, hT, hD, hc, h => by
    have take_get : ∀ i, i < n → (l.take n).toArray[i]? = l.toArray[i]? := fun i hi => by simp [List.getElem?_take, hi]
    -- the first that is not listed is ready
    have hne : ∃ i, i ∈ Region.ready md l.toArray LS := by
      have hm : false ∈ ls.toList := by
        rw [← List.count_pos_iff]; omega
      have hlt : ls.toList.findIdx (fun b => !b) < ls.toList.length := List.findIdx_lt_length_of_exists ⟨false, hm, rfl⟩
      have hlt' : ls.toList.findIdx (fun b => !b) < n := by simpa [s1] using hlt
      have h0 := List.findIdx_getElem (w := hlt)
      have hb : ∀ j, j < ls.toList.findIdx (fun b => !b) → ls.getD j false = true := fun j hj => by
        have := List.not_of_lt_findIdx hj
        have hjs : j < ls.size := by omega
        simpa [hjs] using this
      generalize ls.toList.findIdx (fun b => !b) = i at *
      refine ⟨i, mem_ready.2 ⟨?_, ?_⟩⟩
      · have h1 := hE i hlt'
        have his : i < ls.size := by omega
        have hiS : i < LS.size := by omega
        have h2 : ls.getD i false = false := by simpa [his] using h0
        rw [h2] at h1
        simpa [hiS] using h1.symm
      · obtain ⟨o, ho, _, hd⟩ := postB_head hP hlt'
        refine ⟨o, ho, fun e he hbd => ?_⟩
        have := hd e he hbd
        rw [← hE e.on (by omega)]
        exact hb e.on this
    rw [show k + 1 + m = (k + m) + 1 from by omega]
    refine ⟨fun h0 => ?_, fun i hi => ?_⟩
    · obtain ⟨i, hi⟩ := hne
      rw [h0] at hi
      cases hi
    · obtain ⟨hi0, o, ho, hdep⟩ := mem_ready.1 hi
      have hil : i < l.length := by simpa using (Array.getElem?_eq_some_iff.1 ho).1
      have hin : i < n := by
        rcases Nat.lt_or_ge i n with hh | hh
        · exact hh
        · exfalso
          have hm : false ∈ ls.toList := by
            rw [← List.count_pos_iff]; omega
          obtain ⟨j, hj, hjf⟩ := List.mem_iff_getElem.1 hm
          have hjn : j < n := by simpa [s1] using hj
          have h1 := anc_listed hD _ i (postB_tail hP (by simpa using hil) hh hjn) fun o' ho' e he hb => by
            rw [ho] at ho'; cases ho'; exact hdep e he hb
          rw [← hE j hjn] at h1
          have hjs : j < ls.size := by omega
          have h2 : ls.getD j false = false := by simpa [hjs] using hjf
          rw [h1] at h2; cases h2
      obtain ⟨o', ho', hg, hd⟩ := postB_head hP hin
      rw [ho] at ho'
      cases ho'
      have his : i < ls.size := by omega
      have hiS : i < LS.size := by omega
      have hLf : LS.getD i false = false := by simpa [hiS] using hi0
      have hlf : ls.getD i false = false := by rw [hE i hin]; exact hLf
      have hr1 : i ∈ Region.ready md (l.take n).toArray ls := mem_ready.2 ⟨by simpa [his] using hlf, o, by rw [take_get i hin]; exact ho, fun e he hb => by
        have h1 := hd e he hb
        rw [hE e.on (by omega)]
        exact hdep e he hb⟩
      have h7 := h.2 i hr1
      have hw : ∀ y, Region.wanted o y = true := fun y => by unfold Region.wanted; rw [hg]
      have hD2 : DownB md l.toArray (LS.setIfInBounds i true) := fun j oj hoj hjl e he hb => by
        by_cases hij : i = j
        · subst hij
          rw [ho] at hoj
          cases hoj
          exact getD_set_true (hdep e he hb)
        · rw [getD_set_ne false hij] at hjl
          exact getD_set_true (hD j oj hoj hjl e he hb)
      have hc2 : (ls.setIfInBounds i true).toList.count false = k := by
        have := count_set_true ls.toList i (by
          have : ls[i]? = some false := by simpa [his] using hlf
          simpa using this)
        rw [Array.toList_setIfInBounds]
        omega
      have hE2 : ∀ j, j < n → (ls.setIfInBounds i true).getD j false = (LS.setIfInBounds i true).getD j false := fun j hj => by
        by_cases hij : i = j
        · subst hij
          simp [his, hiS]
        · rw [getD_set_ne false hij, getD_set_ne false hij]
          exact hE j hj
      have hT2 : ∀ j, n ≤ j → (LS.setIfInBounds i true).getD j false = false := fun j hj => by
        rw [getD_set_ne false (by omega)]
        exact hT j hj
      have ih := fun a w hh => wpAny_trunc hn hP hK k (ls.setIfInBounds i true) (LS.setIfInBounds i true) a w (by simpa using s1) (by simpa using s2) hE2 hT2 hD2 hc2 hh
      unfold wpOp at h7 ⊢
      simp only [take_get i hin, ho, hw, if_true] at h7 ⊢
      rcases h7 with h7 | ⟨g1, g2⟩
      · exact .inl (Oper.wp_mono ih (upon_pre _ h7))
      · exact .inr ⟨g1, g2⟩
theorem preQ_self : preQ Q (fun a w => Q .normal a w) = Q := by
  funext x a w
  cases x <;> rfl
/-- The first n operations by the loose walk, then the others in their one order. -/
theorem wp_region_post {id : Nat} {Q : Exit → Act → World → Prop} {a : Act} {w : World} {l : List Oper} (n : Nat) (E : List En) (hm : P.follows .mixedOrders = true) (hn : n ≤ l.length)
    (hT : postB .any l.toArray n = true)
    (hB : Region.lexB .any (l.take n).toArray = true) (hF : forcedB .any l.toArray (l.drop n).length n (listedN n 0 (Array.replicate l.length false)) = true)
    (hE : (Region.ready .any l.toArray (listedN (l.drop n).length n (listedN n 0 (Array.replicate l.length false)))).isEmpty = true)
    (h : Lw P (l.take n).toArray w E (fun a' F' => ∀ w', Below w.heap.size w w' → (∀ k u, F' k u → enR E k u w') → wpList P l.toArray Q (l.drop n) a' w') 0 (l.take n) a (fun _ _ => False)) : (Code.region id l.toArray true).wp P Q a w := by
  refine wp_region_any hm ?_
  simp only [Region.lexB, Bool.and_eq_true] at hB
  have hK : ∀ a w, wpList P l.toArray Q (l.drop n) a w → wpAny P .any l.toArray Q (l.drop n).length (listedN n 0 (Array.replicate l.length false)) a w := fun a w hh => by
    have h2 := wpAny_pre (P := P) (md := .any) (Q := Q) (K := fun a w => Q .normal a w) (l.drop n).length n (listedN n 0 (Array.replicate l.length false)) (l.drop n) a w 0
      (fun a w hq => ⟨by simpa using hE, hq⟩) rfl (fun j _ => by simp) hF (by rw [preQ_self]; exact hh)
    exact h2
  have hL := wpAnyL_lex (P := P) (C := fun w' => Below w.heap.size w w') (T := enT E) (R := enR E) (md := .any) (Q := fun a' F' => ∀ w', Below w.heap.size w w' → (∀ k u, F' k u → enR E k u w') → wpList P l.toArray Q (l.drop n) a' w') hB.1 (l.take n) 0 (Array.replicate (l.take n).length false) a (fun _ _ => False) (by simp) (by simpa using hB.2) h
  have h1 : wpAny P .any (l.take n).toArray (preQ Q (fun a w => wpList P l.toArray Q (l.drop n) a w)) (l.take n).length (Array.replicate (l.take n).length false) a w.drew :=
    wpAny_of_loose (T := enT E) (Q := fun a' F' => ∀ w', Below w.heap.size w w' → (∀ k u, F' k u → enR E k u w') → wpList P l.toArray Q (l.drop n) a' w') enR_below (fun _ F w' hw' hF hh => hh w' hw' hF) _ _ _ (fun _ _ => False) _ (Below.refl _ _).drew (fun _ _ hh => False.elim hh) hL
  have hn2 : (l.take n).length = n := by simp; omega
  have h3 := wpAny_trunc (n := n) (m := (l.drop n).length) hn hT hK (l.take n).length (Array.replicate (l.take n).length false) (Array.replicate l.length false) a w.drew (by simp; omega) (by simp)
    (fun i hi => by
      rw [rep_getD, rep_getD]) (fun i _ => rep_getD _ _) (fun j o _ hj => by rw [rep_getD] at hj; cases hj) (by simp) h1
  have e : (l.take n).length + (l.drop n).length = l.length := by rw [← List.length_append, List.take_append_drop]
  rw [e] at h3
  simpa using h3
end
end Go.Proofs.Ytgbbhkdaalnchaa
