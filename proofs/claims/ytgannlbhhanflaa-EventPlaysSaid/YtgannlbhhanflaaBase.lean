/-
  What a vector is as cells, with the small facts that the walks use. No program here.
-/
import Derived.WalkKit
import Derived.Handy
import Derived.Deep.Draws
import Derived.BigQuiet
import Derived.Lib.Hide
namespace Go.Proofs.Ytgannlbhhanflaa
set_option linter.unusedVariables false
set_option linter.unusedSimpArgs false
open Go.RowKit

/-- Six numbers. -/
structure Vec where
  v0 : Int
  v1 : Int
  v2 : Int
  v3 : Int
  v4 : Int
  v5 : Int

namespace Vec
theorem ext {a b : Vec} (h0 : a.v0 = b.v0) (h1 : a.v1 = b.v1) (h2 : a.v2 = b.v2) (h3 : a.v3 = b.v3) (h4 : a.v4 = b.v4) (h5 : a.v5 = b.v5) : a = b := by
  cases a; cases b; simp_all
instance : DecidableEq Vec := fun a b =>
  decidable_of_iff (a.v0 = b.v0 ∧ a.v1 = b.v1 ∧ a.v2 = b.v2 ∧ a.v3 = b.v3 ∧ a.v4 = b.v4 ∧ a.v5 = b.v5)
    ⟨fun ⟨h0, h1, h2, h3, h4, h5⟩ => ext h0 h1 h2 h3 h4 h5, fun h => by subst h; simp⟩
def get (v : Vec) : Nat → Int
  | 0 => v.v0
  | 1 => v.v1
  | 2 => v.v2
  | 3 => v.v3
  | 4 => v.v4
  | 5 => v.v5
  | _ => 0
def set (v : Vec) (k : Nat) (x : Int) : Vec :=
  match k with
  | 0 => { v with v0 := x }
  | 1 => { v with v1 := x }
  | 2 => { v with v2 := x }
  | 3 => { v with v3 := x }
  | 4 => { v with v4 := x }
  | 5 => { v with v5 := x }
  | _ => v
/-- The vector whose numbers these are. -/
def ofFn (f : Nat → Int) : Vec := ⟨f 0, f 1, f 2, f 3, f 4, f 5⟩
def zero : Vec := ⟨0, 0, 0, 0, 0, 0⟩
theorem six {P : Nat → Prop} (h0 : P 0) (h1 : P 1) (h2 : P 2) (h3 : P 3) (h4 : P 4) (h5 : P 5) (k : Nat) (h : k < 6) : P k := by
  match k, h with
  | 0, _ => exact h0
  | 1, _ => exact h1
  | 2, _ => exact h2
  | 3, _ => exact h3
  | 4, _ => exact h4
  | 5, _ => exact h5
theorem ext_get {a b : Vec} (h : ∀ k, k < 6 → a.get k = b.get k) : a = b :=
  ext (h 0 (by omega)) (h 1 (by omega)) (h 2 (by omega)) (h 3 (by omega)) (h 4 (by omega)) (h 5 (by omega))
theorem get_ofFn (f : Nat → Int) (k : Nat) (h : k < 6) : (ofFn f).get k = f k :=
  six (P := fun k => (ofFn f).get k = f k) rfl rfl rfl rfl rfl rfl k h
theorem ofFn_get (v : Vec) : ofFn v.get = v := rfl
theorem get_set_same (v : Vec) (k : Nat) (x : Int) (h : k < 6) : (v.set k x).get k = x :=
  six (P := fun k => (v.set k x).get k = x) rfl rfl rfl rfl rfl rfl k h
theorem get_set_other (v : Vec) (k j : Nat) (x : Int) (h : k < 6) (hj : j < 6) (hne : j ≠ k) : (v.set k x).get j = v.get j := by
  have hk' : k = 0 ∨ k = 1 ∨ k = 2 ∨ k = 3 ∨ k = 4 ∨ k = 5 := by omega
  have hj' : j = 0 ∨ j = 1 ∨ j = 2 ∨ j = 3 ∨ j = 4 ∨ j = 5 := by omega
  rcases hk' with rfl | rfl | rfl | rfl | rfl | rfl <;> rcases hj' with rfl | rfl | rfl | rfl | rfl | rfl <;> first | exact (hne rfl).elim | rfl
theorem get_set (v : Vec) (k j : Nat) (x : Int) (h : k < 6) (hj : j < 6) : (v.set k x).get j = if j = k then x else v.get j := by
  by_cases e : j = k
  · subst e; rw [if_pos rfl]; exact get_set_same v j x h
  · rw [if_neg e]; exact get_set_other v k j x h hj e
theorem get_zero (k : Nat) : zero.get k = 0 := by
  unfold get zero; split <;> rfl
/-- The numbers are numbers of 64 bits. -/
def ok (v : Vec) : Prop := ∀ k, k < 6 → 0 ≤ v.get k ∧ v.get k ≤ 18446744073709551615
theorem ok_zero : zero.ok := fun k _ => by rw [get_zero]; omega
/-- For the loop that fills a vector: the first k are there. -/
def upto (v : Vec) (k : Nat) : Vec := ofFn fun j => if j < k then v.get j else 0
theorem upto_zero (v : Vec) : v.upto 0 = zero := rfl
theorem upto_six (v : Vec) : v.upto 6 = v := rfl
theorem upto_succ (v : Vec) (k : Nat) (h : k < 6) : (v.upto k).set k (v.get k) = v.upto (k + 1) :=
  six (P := fun k => (v.upto k).set k (v.get k) = v.upto (k + 1)) rfl rfl rfl rfl rfl rfl k h
/-- Place by place. -/
def map2 (c : Int → Int → Int) (a b : Vec) : Vec := ofFn fun j => c (a.get j) (b.get j)
theorem get_map2 (c : Int → Int → Int) (a b : Vec) (k : Nat) (h : k < 6) : (map2 c a b).get k = c (a.get k) (b.get k) := get_ofFn _ k h
/-- What is chosen of all, from the left. -/
def foldV (c : Int → Int → Int) : List Vec → Vec
  | [] => zero
  | v :: r => r.foldl (map2 c) v
theorem foldV_take (c : Int → Int → Int) (L : List Vec) (k : Nat) (v : Vec) (h0 : 0 < k) (h : L[k]? = some v) : foldV c (L.take (k + 1)) = map2 c (foldV c (L.take k)) v := by
  cases L with
  | nil => simp at h
  | cons a r =>
    obtain ⟨k, rfl⟩ : ∃ j, k = j + 1 := ⟨k - 1, by omega⟩
    simp only [List.getElem?_cons_succ] at h
    simp only [List.take_succ_cons, foldV]
    rw [List.take_add_one, h]
    simp
end Vec

/-- A vector's cells. -/
def vecA (v : Vec) : Array Value := #[.int .u64 v.v0, .int .u64 v.v1, .int .u64 v.v2, .int .u64 v.v3, .int .u64 v.v4, .int .u64 v.v5]
theorem vecA_get (v : Vec) (k : Nat) (h : k < 6) : (vecA v)[k]? = some (.int .u64 (v.get k)) :=
  Vec.six (P := fun k => (vecA v)[k]? = some (.int .u64 (v.get k))) rfl rfl rfl rfl rfl rfl k h
theorem vecA_set (v : Vec) (k : Nat) (x : Int) (h : k < 6) : (vecA v).setIfInBounds k (.int .u64 x) = vecA (v.set k x) :=
  Vec.six (P := fun k => (vecA v).setIfInBounds k (.int .u64 x) = vecA (v.set k x)) rfl rfl rfl rfl rfl rfl k h
theorem vecA_size (v : Vec) : (vecA v).size = 6 := rfl
theorem vecA_toList (v : Vec) : (vecA v).toList = [.int .u64 v.v0, .int .u64 v.v1, .int .u64 v.v2, .int .u64 v.v3, .int .u64 v.v4, .int .u64 v.v5] := rfl
theorem vecA_0 (v : Vec) : (vecA v)[0]? = some (.int .u64 v.v0) := rfl
theorem vecA_1 (v : Vec) : (vecA v)[1]? = some (.int .u64 v.v1) := rfl
theorem vecA_2 (v : Vec) : (vecA v)[2]? = some (.int .u64 v.v2) := rfl
theorem vecA_3 (v : Vec) : (vecA v)[3]? = some (.int .u64 v.v3) := rfl
theorem vecA_4 (v : Vec) : (vecA v)[4]? = some (.int .u64 v.v4) := rfl
theorem vecA_5 (v : Vec) : (vecA v)[5]? = some (.int .u64 v.v5) := rfl
theorem vecA_fold (v : Vec) : #[Value.int .u64 v.v0, .int .u64 v.v1, .int .u64 v.v2, .int .u64 v.v3, .int .u64 v.v4, .int .u64 v.v5] = vecA v := rfl
theorem vecA_mk (a b c d e f : Int) : #[Value.int .u64 a, .int .u64 b, .int .u64 c, .int .u64 d, .int .u64 e, .int .u64 f] = vecA ⟨a, b, c, d, e, f⟩ := rfl
theorem vec_zero : (⟨0, 0, 0, 0, 0, 0⟩ : Vec) = Vec.zero := rfl
theorem vecA_zero : #[Value.int .u64 0, .int .u64 0, .int .u64 0, .int .u64 0, .int .u64 0, .int .u64 0] = vecA Vec.zero := rfl
theorem vecA_set0 (v : Vec) (x : Int) : (vecA v).setIfInBounds 0 (.int .u64 x) = vecA ⟨x, v.v1, v.v2, v.v3, v.v4, v.v5⟩ := rfl
theorem vecA_set1 (v : Vec) (x : Int) : (vecA v).setIfInBounds 1 (.int .u64 x) = vecA ⟨v.v0, x, v.v2, v.v3, v.v4, v.v5⟩ := rfl
theorem vecA_set2 (v : Vec) (x : Int) : (vecA v).setIfInBounds 2 (.int .u64 x) = vecA ⟨v.v0, v.v1, x, v.v3, v.v4, v.v5⟩ := rfl
theorem vecA_set3 (v : Vec) (x : Int) : (vecA v).setIfInBounds 3 (.int .u64 x) = vecA ⟨v.v0, v.v1, v.v2, x, v.v4, v.v5⟩ := rfl
theorem vecA_set4 (v : Vec) (x : Int) : (vecA v).setIfInBounds 4 (.int .u64 x) = vecA ⟨v.v0, v.v1, v.v2, v.v3, x, v.v5⟩ := rfl
theorem vecA_set5 (v : Vec) (x : Int) : (vecA v).setIfInBounds 5 (.int .u64 x) = vecA ⟨v.v0, v.v1, v.v2, v.v3, v.v4, x⟩ := rfl
theorem vec_eta (v : Vec) : (⟨v.v0, v.v1, v.v2, v.v3, v.v4, v.v5⟩ : Vec) = v := rfl
theorem vzero_0 : Vec.zero.v0 = 0 := rfl
theorem vzero_1 : Vec.zero.v1 = 0 := rfl
theorem vzero_2 : Vec.zero.v2 = 0 := rfl
theorem vzero_3 : Vec.zero.v3 = 0 := rfl
theorem vzero_4 : Vec.zero.v4 = 0 := rfl
theorem vzero_5 : Vec.zero.v5 = 0 := rfl
theorem vecA_ne_nil (v : Vec) : (vecA v = #[]) = False := by simp [vecA]
attribute [go_sem] vzero_0 vzero_1 vzero_2 vzero_3 vzero_4 vzero_5 vecA_ne_nil
attribute [go_sem] vecA_set0 vecA_set1 vecA_set2 vecA_set3 vecA_set4 vecA_set5 vec_eta
attribute [go_sem] vecA_size vecA_toList vecA_0 vecA_1 vecA_2 vecA_3 vecA_4 vecA_5 vecA_mk vec_zero

/-- What 'Below' says of cells and of marks, as two rules of the walk. -/
theorem bcell {W w1 : World} (hb : Below W.heap.size W w1) :
    (∀ b o, b < W.heap.size → w1.cell? ⟨b, o, none⟩ = W.cell? ⟨b, o, none⟩) ∧ (∀ b o, b < W.heap.size → w1.frozen? ⟨b, o, none⟩ = W.frozen? ⟨b, o, none⟩) :=
  ⟨fun b o h => hb.cell (p := ⟨b, o, none⟩) h, fun b o h => hb.frozen (p := ⟨b, o, none⟩) h⟩

/-- A block that is known whole, none of its cells frozen. -/
def Blk (w : World) (g : Nat) (t : TypeId) (cs : Array Value) : Prop := w.heap[g]? = some (.cells cs t (0, 0))
section
variable {w w' : World} {g : Nat} {t : TypeId} {cs : Array Value}
theorem Blk.lt (h : Blk w g t cs) : g < w.heap.size := by
  rcases Nat.lt_or_ge g w.heap.size with hlt | hge
  · exact hlt
  · unfold Blk at h; rw [Array.getElem?_eq_none hge] at h; cases h
theorem Blk.cell (h : Blk w g t cs) (i : Nat) : w.cell? ⟨g, i, none⟩ = cs[i]? := cell_of_row w g i cs t (0, 0) h
theorem Blk.frozen (h : Blk w g t cs) (i : Nat) : w.frozen? ⟨g, i, none⟩ = false := by
  unfold Blk at h
  simp [World.frozen?, h]
theorem Blk.new (w : World) (t : TypeId) (cs : Array Value) : Blk (w.alloc (.cells cs t)) w.heap.size t cs := heap_alloc_new w _
theorem Blk.new_at {w : World} {g : Nat} {t : TypeId} {cs cs' : Array Value} (h : w.heap.size = g) (hc : cs = cs') : Blk (w.alloc (.cells cs t)) g t cs' := by subst h; subst hc; exact Blk.new w t cs
theorem Blk.drew (h : Blk w g t cs) : Blk w.drew g t cs := h
theorem Blk.alloc (h : Blk w g t cs) (o : Obj) : Blk (w.alloc o) g t cs := (Below.heap_alloc w o g h.lt).trans h
theorem Blk.set_ (h : Blk w g t cs) (i : Nat) (u : Value) : Blk (w.setCell ⟨g, i, none⟩ u) g t (cs.setIfInBounds i u) := by
  unfold Blk at h ⊢
  simp [World.setCell, Array.getElem?_modify, h]
theorem Blk.far (h : Blk w g t cs) {p : Addr} (hp : g ≠ p.block) (u : Value) : Blk (w.setCell p u) g t cs := (Below.heap_setCell w p u g hp).trans h
theorem Blk.below {B : Nat} (h : Blk w g t cs) (hb : Below B w w') (hg : g < B) : Blk w' g t cs := (hb.block g hg).trans h
/-- The two rules of the walk. -/
theorem Blk.rules (h : Blk w g t cs) : (∀ i, w.cell? ⟨g, i, none⟩ = cs[i]?) ∧ (∀ i, w.frozen? ⟨g, i, none⟩ = false) := ⟨h.cell, h.frozen⟩
end

/-- A whole vector stored into a block of its own. -/
theorem Blk.setVec {w : World} {g : Nat} {t : TypeId} {O : Vec} (h : Blk w g t (vecA O)) (R : Vec) :
    Blk ((((((w.setCell ⟨g, 0, none⟩ (.int .u64 R.v0)).setCell ⟨g, 1, none⟩ (.int .u64 R.v1)).setCell ⟨g, 2, none⟩ (.int .u64 R.v2)).setCell ⟨g, 3, none⟩ (.int .u64 R.v3)).setCell ⟨g, 4, none⟩ (.int .u64 R.v4)).setCell ⟨g, 5, none⟩ (.int .u64 R.v5)) g t (vecA R) :=
  (((((h.set_ 0 _).set_ 1 _).set_ 2 _).set_ 3 _).set_ 4 _).set_ 5 (.int .u64 R.v5)
theorem Blk.farVec {w : World} {g d : Nat} {t : TypeId} {cs : Array Value} (h : Blk w g t cs) (hne : g ≠ d) (R : Vec) :
    Blk ((((((w.setCell ⟨d, 0, none⟩ (.int .u64 R.v0)).setCell ⟨d, 1, none⟩ (.int .u64 R.v1)).setCell ⟨d, 2, none⟩ (.int .u64 R.v2)).setCell ⟨d, 3, none⟩ (.int .u64 R.v3)).setCell ⟨d, 4, none⟩ (.int .u64 R.v4)).setCell ⟨d, 5, none⟩ (.int .u64 R.v5)) g t cs :=
  (((((h.far (p := ⟨d, 0, none⟩) hne _).far (p := ⟨d, 1, none⟩) hne _).far (p := ⟨d, 2, none⟩) hne _).far (p := ⟨d, 3, none⟩) hne _).far (p := ⟨d, 4, none⟩) hne _).far (p := ⟨d, 5, none⟩) hne _
theorem below_setVec {B : Nat} {a w : World} (h : Below B a w) {d : Nat} (hd : B ≤ d) (R : Vec) :
    Below B a ((((((w.setCell ⟨d, 0, none⟩ (.int .u64 R.v0)).setCell ⟨d, 1, none⟩ (.int .u64 R.v1)).setCell ⟨d, 2, none⟩ (.int .u64 R.v2)).setCell ⟨d, 3, none⟩ (.int .u64 R.v3)).setCell ⟨d, 4, none⟩ (.int .u64 R.v4)).setCell ⟨d, 5, none⟩ (.int .u64 R.v5)) :=
  (((((h.setCell (p := ⟨d, 0, none⟩) hd _).setCell (p := ⟨d, 1, none⟩) hd _).setCell (p := ⟨d, 2, none⟩) hd _).setCell (p := ⟨d, 3, none⟩) hd _).setCell (p := ⟨d, 4, none⟩) hd _).setCell (p := ⟨d, 5, none⟩) hd _

/-- A slice of vectors that reads as a list; all its cells lie below block B. -/
def VRows (w : World) (B : Nat) (A : Option Addr) (L : List Vec) : Prop :=
  L ≠ [] → ∃ b o, A = some ⟨b, o, none⟩ ∧ b < B ∧ ∀ i v, L[i]? = some v → ∀ j, j < 6 → w.cell? ⟨b, o + i * 6 + j, none⟩ = some (.int .u64 (v.get j))
/-- Six cells that hold a vector. -/
@[reducible] def SixAt (w : World) (b o : Nat) (v : Vec) : Prop :=
  w.cell? ⟨b, o, none⟩ = some (.int .u64 v.v0) ∧ w.cell? ⟨b, o + 1, none⟩ = some (.int .u64 v.v1) ∧ w.cell? ⟨b, o + 2, none⟩ = some (.int .u64 v.v2) ∧
  w.cell? ⟨b, o + 3, none⟩ = some (.int .u64 v.v3) ∧ w.cell? ⟨b, o + 4, none⟩ = some (.int .u64 v.v4) ∧ w.cell? ⟨b, o + 5, none⟩ = some (.int .u64 v.v5)
theorem sixAt_of {w : World} {b o i : Nat} {v : Vec} (h : ∀ j, j < 6 → w.cell? ⟨b, o + i * 6 + j, none⟩ = some (.int .u64 (v.get j))) : SixAt w b (o + i * 6) v :=
  ⟨h 0 (by omega), h 1 (by omega), h 2 (by omega), h 3 (by omega), h 4 (by omega), h 5 (by omega)⟩
theorem SixAt.below {w w' : World} {B b o : Nat} {v : Vec} (h : SixAt w b o v) (hb : Below B w w') (hlt : b < B) : SixAt w' b o v :=
  ⟨(hb.cell (p := ⟨b, _, none⟩) hlt).trans h.1, (hb.cell (p := ⟨b, _, none⟩) hlt).trans h.2.1, (hb.cell (p := ⟨b, _, none⟩) hlt).trans h.2.2.1,
   (hb.cell (p := ⟨b, _, none⟩) hlt).trans h.2.2.2.1, (hb.cell (p := ⟨b, _, none⟩) hlt).trans h.2.2.2.2.1, (hb.cell (p := ⟨b, _, none⟩) hlt).trans h.2.2.2.2.2⟩
theorem VRows.below {w w' : World} {B : Nat} {A : Option Addr} {L : List Vec} (h : VRows w B A L) (hb : Below B w w') : VRows w' B A L := fun hL => by
  obtain ⟨b, o, hA, hlt, hc⟩ := h hL
  exact ⟨b, o, hA, hlt, fun i v hi j hj => (hb.cell (p := ⟨b, _, none⟩) hlt).trans (hc i v hi j hj)⟩

/-- Two vectors held against each other. -/
theorem run_equalIn_vec {P : Program} (w : World) (d : Nat) (t e : TypeId) (i : TypeInfo) (a b : Vec) (ht : P.underlying t = some (.array 6 e)) (he : P.underlying e = some (.int .u64)) (hi : P.info? e = some i) (hz : i.size = 1) :
    (Op.equalIn (d + 2) t (.agg (vecA a)) (.agg (vecA b))).run P w = .ok (decide (a = b)) w := by
  have hag : ∀ w, (isAgg e).run P w = .ok false w := fun w => by simp [isAgg, run_underlying he]
  have hsz : ∀ w, (sizeOf e).run P w = .ok 1 w := fun w => by simp [sizeOf, typeInfo, hi, hz]
  have hp : ∀ (v : Vec) (k : Nat) (h : k < 6) w, (part e (vecA v) k).run P w = .ok (.int .u64 (v.get k)) w := fun v k h w => by
    simp [part, hag, vecA_get v k h]
  have hq : ∀ (x y : Int) w, (Op.equalIn (d + 1) e (.int .u64 x) (.int .u64 y)).run P w = .ok (x == y) w := fun x y w => run_equalIn_int w d e .u64 .u64 x y he
  have hd : decide (a = b) = (a.get 0 == b.get 0 && (a.get 1 == b.get 1 && (a.get 2 == b.get 2 && (a.get 3 == b.get 3 && (a.get 4 == b.get 4 && a.get 5 == b.get 5))))) := by
    rw [Bool.eq_iff_iff]
    simp only [decide_eq_true_eq, Bool.and_eq_true, beq_iff_eq]
    exact ⟨fun h => by subst h; simp, fun ⟨h0, h1, h2, h3, h4, h5⟩ => Vec.ext h0 h1 h2 h3 h4 h5⟩
  have a0 := hp a 0 (by omega)
  have a1 := hp a 1 (by omega)
  have a2 := hp a 2 (by omega)
  have a3 := hp a 3 (by omega)
  have a4 := hp a 4 (by omega)
  have a5 := hp a 5 (by omega)
  have b0 := hp b 0 (by omega)
  have b1 := hp b 1 (by omega)
  have b2 := hp b 2 (by omega)
  have b3 := hp b 3 (by omega)
  have b4 := hp b 4 (by omega)
  have b5 := hp b 5 (by omega)
  rw [Op.equalIn, hd]
  simp only [Sem.run_bind, run_underlying ht, Result.andThen_ok, hsz]
  simp [Std.Legacy.Range.forIn_eq_forIn_range', List.range'_succ, a0, a1, a2, a3, a4, a5, b0, b1, b2, b3, b4, b5, hq]
  clear a0 a1 a2 a3 a4 a5 b0 b1 b2 b3 b4 b5 hp hq hd
  by_cases e0 : a.get 0 = b.get 0
  · by_cases e1 : a.get 1 = b.get 1
    · by_cases e2 : a.get 2 = b.get 2
      · by_cases e3 : a.get 3 = b.get 3
        · by_cases e4 : a.get 4 = b.get 4
          · by_cases e5 : a.get 5 = b.get 5 <;> simp [e0, e1, e2, e3, e4, e5]
          · simp [e0, e1, e2, e3, e4]
        · simp [e0, e1, e2, e3]
      · simp [e0, e1, e2]
    · simp [e0, e1]
  · simp [e0]

theorem below_drewN {B : Nat} {a w : World} (h : Below B a w) (n : Nat) : Below B a (w.drewN n) := ⟨h.os, h.tape, h.output, h.size, h.block⟩
theorem VRows.mono {w : World} {B B' : Nat} {A : Option Addr} {L : List Vec} (h : VRows w B A L) (hB : B ≤ B') : VRows w B' A L := fun hL => by
  obtain ⟨b, o, hA, hlt, hc⟩ := h hL
  exact ⟨b, o, hA, by omega, hc⟩
/-- Two vectors in a block of their own. -/
theorem vrows_two {w : World} {g : Nat} {t : TypeId} {a b : Vec} (h : w.heap[g]? = some (.cells #[.int .u64 a.v0, .int .u64 a.v1, .int .u64 a.v2, .int .u64 a.v3, .int .u64 a.v4, .int .u64 a.v5, .int .u64 b.v0, .int .u64 b.v1, .int .u64 b.v2, .int .u64 b.v3, .int .u64 b.v4, .int .u64 b.v5] t (0, 0))) :
    VRows w (g + 1) (some ⟨g, 0, none⟩) [a, b] := fun _ => by
  refine ⟨g, 0, rfl, by omega, fun i v hi j hj => ?_⟩
  rw [cell_of_row w g _ _ t (0, 0) h]
  match i, hi with
  | 0, hi =>
    simp at hi; subst hi
    exact Vec.six (P := fun j => (#[.int .u64 a.v0, .int .u64 a.v1, .int .u64 a.v2, .int .u64 a.v3, .int .u64 a.v4, .int .u64 a.v5, .int .u64 b.v0, .int .u64 b.v1, .int .u64 b.v2, .int .u64 b.v3, .int .u64 b.v4, .int .u64 b.v5] : Array Value)[0 + 0 * 6 + j]? = some (.int .u64 (a.get j))) rfl rfl rfl rfl rfl rfl j hj
  | 1, hi =>
    simp at hi; subst hi
    exact Vec.six (P := fun j => (#[.int .u64 a.v0, .int .u64 a.v1, .int .u64 a.v2, .int .u64 a.v3, .int .u64 a.v4, .int .u64 a.v5, .int .u64 b.v0, .int .u64 b.v1, .int .u64 b.v2, .int .u64 b.v3, .int .u64 b.v4, .int .u64 b.v5] : Array Value)[0 + 1 * 6 + j]? = some (.int .u64 (b.get j))) rfl rfl rfl rfl rfl rfl j hj

/-- Two blocks of the call's own that stand while a region goes on: for 'go_region_held3'. -/
def Two (w0 : World) (t : TypeId) (a b : Array Value) (w' : World) : Prop := Blk w' w0.heap.size t a ∧ Blk w' (w0.heap.size + 1) t b ∧ Below w0.heap.size w0 w'
section
variable {w0 W w1 : World} {t : TypeId} {a b : Array Value}
theorem Two.all (h : Two w0 t a b W) : ((∀ i, W.cell? ⟨w0.heap.size, i, none⟩ = a[i]?) ∧ (∀ i, W.cell? ⟨w0.heap.size + 1, i, none⟩ = b[i]?)) ∧ Two w0 t a b W := ⟨⟨h.1.cell, h.2.1.cell⟩, h⟩
theorem Two.start : Two w0 t a b ((w0.alloc (.cells a t)).alloc (.cells b t)) :=
  ⟨(Blk.new_at rfl rfl).alloc _, Blk.new_at (by simp) rfl, ((Below.refl _ _).alloc (Nat.le_refl _) _).alloc (by simp) _⟩
theorem Two.drew (h : Two w0 t a b W) : Two w0 t a b W.drew := ⟨h.1, h.2.1, h.2.2.drew⟩
theorem Two.alloc (h : Two w0 t a b W) (o : Obj) : Two w0 t a b (W.alloc o) := ⟨h.1.alloc o, h.2.1.alloc o, h.2.2.alloc h.2.2.size o⟩
theorem Two.undrew (h : Two w0 t a b W.drew) : Two w0 t a b W := ⟨h.1, h.2.1, ⟨h.2.2.os, h.2.2.tape, h.2.2.output, h.2.2.size, h.2.2.block⟩⟩
theorem Two.below (h : Two w0 t a b W) (hb : Below W.heap.size W w1) : Two w0 t a b w1 := ⟨h.1.below hb h.1.lt, h.2.1.below hb h.2.1.lt, h.2.2.trans (hb.mono h.2.2.size)⟩
end

/-- For 'go_region_held3': all that was there when the region began is there still. S is 'fun w' => (the rule) ∧ Sb W0 w''. -/
def Sb (W0 w' : World) : Prop := Below W0.heap.size W0 w'
section
variable {W0 W w1 : World}
theorem Sb.all (h : Sb W0 W) : (∀ b o, b < W0.heap.size → W.cell? ⟨b, o, none⟩ = W0.cell? ⟨b, o, none⟩) ∧ Sb W0 W := ⟨fun b o hb => Below.cell h (p := ⟨b, o, none⟩) hb, h⟩
theorem Sb.start : Sb W0 W0 := Below.refl _ _
theorem Sb.drew (h : Sb W0 W) : Sb W0 W.drew := Below.drew h
theorem Sb.undrew (h : Sb W0 W.drew) : Sb W0 W := ⟨h.os, h.tape, h.output, h.size, h.block⟩
theorem Sb.alloc (h : Sb W0 W) (o : Obj) : Sb W0 (W.alloc o) := Below.alloc h h.size o
theorem Sb.below (h : Sb W0 W) (hb : Below W.heap.size W w1) : Sb W0 w1 := Below.trans h (hb.mono h.size)
end

/-- Blocks of the call's own, known whole, while it goes on: nothing that was there in w0 has turned. -/
@[reducible] def Rules (w : World) : List (Nat × TypeId × Array Value) → Prop
  | [] => True
  | (g, _, cs) :: r => (∀ i, w.cell? ⟨g, i, none⟩ = cs[i]?) ∧ (∀ i, w.frozen? ⟨g, i, none⟩ = false) ∧ Rules w r
@[reducible] def Lts (w : World) : List (Nat × TypeId × Array Value) → Prop
  | [] => True
  | (g, _, _) :: r => g < w.heap.size ∧ Lts w r
structure Trk (w0 w : World) (bs : List (Nat × TypeId × Array Value)) : Prop where
  below : Below w0.heap.size w0 w
  blk : ∀ g t cs, (g, t, cs) ∈ bs → Blk w g t cs
section
variable {w0 w w1 : World} {bs : List (Nat × TypeId × Array Value)} {g : Nat} {t : TypeId} {cs : Array Value}
theorem Trk.nil (w : World) : Trk w w [] := ⟨Below.refl _ _, fun _ _ _ h => by cases h⟩
theorem Trk.push (h : Trk w0 w bs) (hg : w.heap.size = g) : Trk w0 (w.alloc (.cells cs t)) ((g, t, cs) :: bs) :=
  ⟨h.below.alloc h.below.size _, fun g' t' cs' hm => by
    rcases List.mem_cons.1 hm with e | hm
    · cases e; exact Blk.new_at hg rfl
    · exact (h.blk _ _ _ hm).alloc _⟩
theorem Trk.alloc (h : Trk w0 w bs) (o : Obj) : Trk w0 (w.alloc o) bs := ⟨h.below.alloc h.below.size _, fun _ _ _ hm => (h.blk _ _ _ hm).alloc _⟩
theorem Trk.drew (h : Trk w0 w bs) : Trk w0 w.drew bs := ⟨h.below.drew, h.blk⟩
theorem Trk.drewN (h : Trk w0 w bs) (n : Nat) : Trk w0 (w.drewN n) bs := ⟨below_drewN h.below n, h.blk⟩
theorem Trk.undrew (h : Trk w0 w.drew bs) : Trk w0 w bs := ⟨⟨h.below.os, h.below.tape, h.below.output, h.below.size, h.below.block⟩, h.blk⟩
theorem Trk.call (h : Trk w0 w bs) (hb : Below w.heap.size w w1) : Trk w0 w1 bs :=
  ⟨h.below.trans (hb.mono h.below.size), fun _ _ _ hm => (h.blk _ _ _ hm).below hb (h.blk _ _ _ hm).lt⟩
theorem Trk.drop (h : Trk w0 w ((g, t, cs) :: bs)) : Trk w0 w bs := ⟨h.below, fun _ _ _ hm => h.blk _ _ _ (List.mem_cons_of_mem _ hm)⟩
theorem Trk.rules (h : Trk w0 w bs) : Rules w bs := by
  obtain ⟨_, hb⟩ := h
  induction bs with
  | nil => trivial
  | cons x r ih =>
    obtain ⟨g, t, cs⟩ := x
    exact ⟨(hb g t cs List.mem_cons_self).cell, (hb g t cs List.mem_cons_self).frozen, ih fun g t cs hm => hb g t cs (List.mem_cons_of_mem _ hm)⟩
theorem Trk.lts (h : Trk w0 w bs) : Lts w bs := by
  obtain ⟨_, hb⟩ := h
  induction bs with
  | nil => trivial
  | cons x r ih =>
    obtain ⟨g, t, cs⟩ := x
    exact ⟨(hb g t cs List.mem_cons_self).lt, ih fun g t cs hm => hb g t cs (List.mem_cons_of_mem _ hm)⟩
theorem Trk.both (h : Trk w0 w bs) : Rules w bs ∧ Trk w0 w bs := ⟨h.rules, h⟩
theorem Trk.lt (h : Trk w0 w ((g, t, cs) :: bs)) : g < w.heap.size := (h.blk _ _ _ List.mem_cons_self).lt
end
/-- A contract, told to a walk that follows blocks of its own. -/
theorem Calls.trk {P : Program} {f : FuncId} {args : Array Value} {w0 W : World} {v : Value} {bs : List (Nat × TypeId × Array Value)}
    (h : Calls P f args W fun e w' => e = .returned v ∧ Below W.heap.size W w') (T : Trk w0 W bs) :
    Calls P f args W fun e w' => e = .returned v ∧ Trk w0 w' bs ∧ Rules w' bs :=
  h.mono fun _ _ ⟨he, hb⟩ => ⟨he, T.call hb, (T.call hb).rules⟩

/-- The cells of a list of vectors. -/
def vcells (L : List Vec) : List Value := L.flatMap fun v => (vecA v).toList
theorem vcells_length (L : List Vec) : (vcells L).length = L.length * 6 := by
  induction L with
  | nil => rfl
  | cons v L ih => simp only [vcells, List.flatMap_cons, List.length_append, List.length_cons] at ih ⊢; rw [ih]; simp [vecA]; omega
theorem vcells_get (L : List Vec) (i : Nat) (v : Vec) (h : L[i]? = some v) (j : Nat) (hj : j < 6) : (vcells L)[i * 6 + j]? = some (.int .u64 (v.get j)) := by
  induction L generalizing i with
  | nil => simp at h
  | cons u L ih =>
    have hl : ((vecA u).toList).length = 6 := rfl
    cases i with
    | zero =>
      simp at h; subst h
      simp only [vcells, List.flatMap_cons]
      rw [List.getElem?_append_left (by rw [hl]; omega), Nat.zero_mul, Nat.zero_add, Array.getElem?_toList]
      exact vecA_get u j hj
    | succ i =>
      have h' : L[i]? = some v := by simpa using h
      have := ih i h'
      simp only [vcells, List.flatMap_cons] at this ⊢
      rw [List.getElem?_append_right (by rw [hl]; omega), hl, show (i + 1) * 6 + j - 6 = i * 6 + j from by omega]
      exact this
theorem vcells_snoc (L : List Vec) (v : Vec) : vcells (L ++ [v]) = vcells L ++ (vecA v).toList := by
  simp [vcells]
theorem ownsRow_below {w w' : World} {base : Nat} {e : TypeId} {size : Nat} {v : Value} {n : Nat} {xs : List Value} (h : w.ownsRow base e size v n xs) (hb : Below w.heap.size w w') : w'.ownsRow base e size v n xs := by
  obtain ⟨h1, h2⟩ := h
  refine ⟨h1, ?_⟩
  rcases h2 with h2 | ⟨g, cap, cur, hv, hg, hh, r⟩
  · exact Or.inl h2
  · exact Or.inr ⟨g, cap, cur, hv, hg, (hb.block g (Blk.lt hh)).trans hh, r⟩
theorem vrows_own {w : World} {base : Nat} {e : TypeId} {v : Value} {L : List Vec} (h : w.ownsRow base e 6 v L.length (vcells L)) :
    ∃ A c, v = .slice A L.length c ∧ L.length ≤ c ∧ c ≤ maxLen ∧ VRows w w.heap.size A L := by
  have h0 := h
  obtain ⟨_, h2⟩ := h
  rcases h2 with ⟨rfl, hn⟩ | ⟨g, cap, cur, rfl, hg, hh, hnc, hcm, _, _⟩
  · refine ⟨none, 0, by rw [hn], by omega, by decide, fun hL => absurd (List.eq_nil_of_length_eq_zero hn) hL⟩
  · refine ⟨_, cap, rfl, hnc, hcm, fun _ => ⟨g, 0, rfl, Blk.lt hh, fun i u hi j hj => ?_⟩⟩
    have hlt : i < L.length := (List.getElem?_eq_some_iff.1 hi).1
    have := h0.cellAt (0 + i * 6 + j) (by omega)
    rw [this, Nat.zero_add]
    exact vcells_get L i u hi j hj
/-- A slice of bytes that reads as a list of numbers. -/
def BRows (w : World) (B : Nat) (A : Option Addr) (l : List Int) : Prop :=
  l ≠ [] → ∃ b o, A = some ⟨b, o, none⟩ ∧ b < B ∧ ∀ i x, l[i]? = some x → w.cell? ⟨b, o + i, none⟩ = some (.int .u8 x)
theorem BRows.below {w w' : World} {B : Nat} {A : Option Addr} {l : List Int} (h : BRows w B A l) (hb : Below B w w') : BRows w' B A l := fun hL => by
  obtain ⟨b, o, hA, hlt, hc⟩ := h hL
  exact ⟨b, o, hA, hlt, fun i x hi => (hb.cell (p := ⟨b, _, none⟩) hlt).trans (hc i x hi)⟩
theorem Trk.six {w0 w : World} {b o : Nat} {u : Vec} {bs : List (Nat × TypeId × Array Value)} (h6 : SixAt w0 b o u) (hlt : b < w0.heap.size) (T : Trk w0 w bs) : (SixAt w b o u ∧ Rules w bs) ∧ Trk w0 w bs :=
  ⟨⟨h6.below T.below hlt, T.rules⟩, T⟩

/-- A world that comes later: all that was there in W0 is there still. A region that draws its order, whose operations read and call alone, is walked once, in the class of these worlds (Derived/Deep/Quiet.lean's theorem). -/
def Later (W0 : World) : Type := { w' : World // Below W0.heap.size W0 w' }
instance {W0 : World} : Nonempty (Later W0) := ⟨⟨W0, Below.refl _ _⟩⟩
def Later.w {W0 : World} (x : Later W0) : World := x.1
theorem Later.below {W0 : World} (x : Later W0) : Below W0.heap.size W0 x.w := x.2
@[go_sem] theorem Later.cell {W0 : World} (x : Later W0) (b o : Nat) (h : b < W0.heap.size) : x.w.cell? ⟨b, o, none⟩ = W0.cell? ⟨b, o, none⟩ := x.below.cell (p := ⟨b, o, none⟩) h
theorem later_exists {W0 : World} {F : World → Prop} : (∀ w', (∃ x : Later W0, w' = x.w) → F w') ↔ ∀ x : Later W0, F x.w :=
  ⟨fun h x => h _ ⟨x, rfl⟩, fun h _ ⟨x, e⟩ => e ▸ h x⟩
theorem wp_region_later {P : Program} {id : Nat} {Q : Exit → Act → World → Prop} {a : Act} {W0 : World} {l : List Oper} (hm : P.follows .mixedOrders = true) (hB : Region.lexB .any l.toArray = true)
    (h : wpQuiet P l.toArray (fun w' => ∃ x : Later W0, w' = x.w) (fun a' => ∀ w', (∃ x : Later W0, w' = x.w) → Q .normal a' w') l a) : (Code.region id l.toArray true).wp P Q a W0 :=
  wp_region_quiet (C := fun w' => ∃ x : Later W0, w' = x.w) hm hB ⟨⟨W0.drew, (Below.refl _ _).drew⟩, rfl⟩ (by simpa using h)
theorem Calls.later {P : Program} {f : FuncId} {args : Array Value} {W0 : World} {x : Later W0} {v : Value} (h : Calls P f args x.w fun e w' => e = .returned v ∧ Below x.w.heap.size x.w w') :
    Calls P f args x.w fun e w'' => e = .returned v ∧ ∃ y : Later W0, w'' = y.w :=
  h.mono fun _ w' ⟨he, hb⟩ => ⟨he, ⟨w', x.below.trans (hb.mono x.below.size)⟩, rfl⟩

/-- A slice literal of one and of two parts. -/
def bs1 (t : TypeId) (x : Value) : Sem Next := do pure (.value (← Instr.buildSlice t 1 #[(0, x)]))
def bs2 (t : TypeId) (x y : Value) : Sem Next := do pure (.value (← Instr.buildSlice t 2 #[(0, x), (1, y)]))

theorem ret_bool {a b : Bool} (h : a = b) : Ending.returned (.bool a) = .returned (.bool b) := by rw [h]
theorem ret_int {k : IntKind} {a b : Int} (h : a = b) : Ending.returned (.int k a) = .returned (.int k b) := by rw [h]
end Go.Proofs.Ytgannlbhhanflaa
