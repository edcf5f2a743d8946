/-
  Lists that go together; what a step that writes one block, and one row, leaves. No program here.
-/
import Derived.Test.YtgbbhkdaalnchaaGA
namespace Go.Proofs.Ytgbbhkdaalnchaa
set_option linter.unusedVariables false
set_option linter.unusedSimpArgs false
open Go.RowKit

/-- Two lists go together. -/
def All2 {α β : Type} (R : α → β → Prop) : List α → List β → Prop
  | [], [] => True
  | x :: X, m :: L => R x m ∧ All2 R X L
  | _, _ => False
section
variable {α β : Type} {R R' : α → β → Prop}
theorem All2.len : ∀ {X : List α} {L : List β}, All2 R X L → X.length = L.length
  | [], [], _ => rfl
  | _ :: _, _ :: _, h => by simp [All2.len h.2]
  | [], _ :: _, h => by cases h
  | _ :: _, [], h => by cases h
theorem All2.get : ∀ {X : List α} {L : List β} {i : Nat} {m : β}, All2 R X L → L[i]? = some m → ∃ x, X[i]? = some x ∧ R x m
  | [], [], _, _, _, hi => by simp at hi
  | x :: _, m :: _, 0, _, h, hi => by
    simp at hi
    subst hi
    exact ⟨x, by simp, h.1⟩
  | _ :: _, _ :: _, i + 1, _, h, hi => by
    obtain ⟨x, h1, h2⟩ := All2.get (i := i) h.2 (by simpa using hi)
    exact ⟨x, by simpa using h1, h2⟩
  | [], _ :: _, _, _, h, _ => by cases h
  | _ :: _, [], _, _, h, _ => by cases h
theorem All2.snoc : ∀ {X : List α} {L : List β} {x : α} {m : β}, All2 R X L → R x m → All2 R (X ++ [x]) (L ++ [m])
  | [], [], _, _, _, h => ⟨h, trivial⟩
  | _ :: _, _ :: _, _, _, h, h2 => ⟨h.1, All2.snoc h.2 h2⟩
  | [], _ :: _, _, _, h, _ => by cases h
  | _ :: _, [], _, _, h, _ => by cases h
theorem All2.erase : ∀ {X : List α} {L : List β} (i : Nat), All2 R X L → All2 R (X.eraseIdx i) (L.eraseIdx i)
  | [], [], _, _ => trivial
  | _ :: _, _ :: _, 0, h => h.2
  | _ :: _, _ :: _, i + 1, h => ⟨h.1, All2.erase i h.2⟩
  | [], _ :: _, _, h => by cases h
  | _ :: _, [], _, h => by cases h
theorem All2.imp : ∀ {X : List α} {L : List β}, (∀ x ∈ X, ∀ m ∈ L, R x m → R' x m) → All2 R X L → All2 R' X L
  | [], [], _, _ => trivial
  | x :: X, m :: L, h, h2 => ⟨h x (by simp) m (by simp) h2.1, All2.imp (fun x hx m hm => h x (by simp [hx]) m (by simp [hm])) h2.2⟩
  | [], _ :: _, _, h => by cases h
  | _ :: _, [], _, h => by cases h
theorem All2.left : ∀ {X : List α} {L : List β} {x : α}, All2 R X L → x ∈ X → ∃ m ∈ L, R x m
  | [], [], _, _, hx => by cases hx
  | x :: X, m :: L, y, h, hx => by
    rcases List.mem_cons.1 hx with rfl | hx
    · exact ⟨m, by simp, h.1⟩
    · obtain ⟨m', h1, h2⟩ := All2.left h.2 hx
      exact ⟨m', by simp [h1], h2⟩
  | [], _ :: _, _, h, _ => by cases h
  | _ :: _, [], _, h, _ => by cases h
end

/-- All blocks stay but h and the row r. -/
structure Fr (w w' : World) (h : Nat) (r : Option Nat) : Prop where
  os : w'.os = w.os
  tape : w'.tape = w.tape
  output : w'.output = w.output
  size : w.heap.size ≤ w'.heap.size
  block : ∀ k, k < w.heap.size → k ≠ h → some k ≠ r → w'.heap[k]? = w.heap[k]?
section
variable {w w' w'' : World} {h : Nat} {r : Option Nat}
theorem Fr.of_below (b : Below w.heap.size w w') : Fr w w' h r := ⟨b.os, b.tape, b.output, b.size, fun k hk _ _ => b.block k hk⟩
theorem Fr.of_grown (g : w.grownBy w' r) : Fr w w' h r := ⟨g.os, g.tape, g.output, g.size, fun k hk _ hr => g.block k hk hr⟩
theorem Fr.of_set (p : Addr) (hp : p.block = h) (u : Value) : Fr w (w.setCell p u) h r := ⟨rfl, rfl, rfl, by simp, fun k _ hk _ => by
  subst hp
  exact heap_setCell_other w p k u hk⟩
theorem Fr.trans (a : Fr w w' h r) (b : Fr w' w'' h r) : Fr w w'' h r :=
  ⟨b.os.trans a.os, b.tape.trans a.tape, b.output.trans a.output, Nat.le_trans a.size b.size, fun k hk h1 h2 => (b.block k (Nat.lt_of_lt_of_le hk a.size) h1 h2).trans (a.block k hk h1 h2)⟩
/-- The second step's row is the first one's, or newer than all. -/
theorem Fr.trans' {r' : Option Nat} (a : Fr w w' h r) (b : Fr w' w'' h r') (hr : r' = r ∨ ∀ k, r' = some k → w.heap.size ≤ k) : Fr w w'' h r :=
  ⟨b.os.trans a.os, b.tape.trans a.tape, b.output.trans a.output, Nat.le_trans a.size b.size, fun k hk h1 h2 => (b.block k (Nat.lt_of_lt_of_le hk a.size) h1 (by
    rcases hr with rfl | hr
    · exact h2
    · intro e; have := hr k e.symm; omega)).trans (a.block k hk h1 h2)⟩
theorem Fr.refl : Fr w w h r := ⟨rfl, rfl, rfl, Nat.le_refl _, fun _ _ _ _ => rfl⟩
theorem Fr.drew (a : Fr w w' h r) : Fr w w'.drew h r := ⟨a.os, a.tape, a.output, a.size, a.block⟩
theorem Fr.set (a : Fr w w' h r) (p : Addr) (hp : p.block = h) (u : Value) : Fr w (w'.setCell p u) h r := a.trans (Fr.of_set p hp u)
theorem Fr.row (a : Fr w w' h r) (cs : Array Value) : Fr w (w'.setRow h cs) h r := a.trans ⟨rfl, rfl, rfl, by simp [World.setRow], fun k _ hk _ => setRow_other w' h k _ hk⟩
theorem Fr.weak (a : Fr w w' h none) : Fr w w' h r := ⟨a.os, a.tape, a.output, a.size, fun k hk h1 _ => a.block k hk h1 (by simp)⟩
theorem Fr.blk {g : Nat} {t : TypeId} {cs : Array Value} (f : Fr w w' h r) (b : Blk w g t cs) (h1 : g ≠ h) (h2 : some g ≠ r) : Blk w' g t cs := (f.block g b.lt h1 h2).trans b
theorem Fr.own {base : Nat} {e : TypeId} {size : Nat} {v : Value} {n : Nat} {xs : List Value} (f : Fr w w' h r) (o : w.ownsRow base e size v n xs) (h1 : v.ownBlock ≠ some h) (h2 : v.ownBlock = none ∨ v.ownBlock ≠ r) : w'.ownsRow base e size v n xs := by
  refine ⟨o.1, ?_⟩
  rcases o.2 with hn | ⟨g, cap, cur, rfl, hb, hg, rest⟩
  · exact .inl hn
  · refine .inr ⟨g, cap, cur, rfl, hb, ?_, rest⟩
    rw [f.block g (Array.getElem?_eq_some_iff.1 hg).1 (fun e => h1 (by simp [Value.ownBlock, e])) (by simpa [Value.ownBlock] using h2)]
    exact hg
theorem Fr.below {w0 : World} (f : Fr w w' h r) (b : Below w0.heap.size w0 w) (h1 : w0.heap.size ≤ h) (h2 : ∀ k, r = some k → w0.heap.size ≤ k) : Below w0.heap.size w0 w' :=
  ⟨f.os.trans b.os, f.tape.trans b.tape, f.output.trans b.output, Nat.le_trans b.size f.size, fun k hk => (f.block k (Nat.lt_of_lt_of_le hk b.size) (by omega) (fun e => by have := h2 k e.symm; omega)).trans (b.block k hk)⟩
theorem Fr.belowB {r : Option Nat} (f : Fr w w' h r) {B : Nat} (h1 : B ≤ h) (h2 : ∀ k, r = some k → B ≤ k) (hB : B ≤ w.heap.size) : Below B w w' :=
  ⟨f.os, f.tape, f.output, f.size, fun k hk => f.block k (by omega) (by omega) (fun e => by have := h2 k e.symm; omega)⟩
end
theorem own_blk_ne {w : World} {base g : Nat} {e t : TypeId} {size n : Nat} {v : Value} {xs : List Value} {cs : Array Value} (o : w.ownsRow base e size v n xs) (b : Blk w g t cs) (hne : e ≠ t) : v.ownBlock ≠ some g := by
  rcases o.2 with ⟨rfl, _⟩ | ⟨g', cap, cur, rfl, _, hg, _⟩
  · simp [Value.ownBlock]
  · intro e2
    obtain rfl : g' = g := by simpa [Value.ownBlock] using e2
    unfold Blk at b
    rw [hg] at b
    injection b with h3
    injection h3 with _ h4
    exact hne h4

theorem Nes.of {g : Nat} : ∀ {bs : List (Nat × TypeId × Array Value)}, (∀ g' t cs, (g', t, cs) ∈ bs → g' ≠ g) → Nes g bs
  | [], _ => trivial
  | (g', t, cs) :: r, h => ⟨h g' t cs (by simp), Nes.of fun g2 t2 c2 hm => h g2 t2 c2 (by simp [hm])⟩
/-- All of these blocks differ. -/
@[reducible] def Nds : List (Nat × TypeId × Array Value) → Prop
  | [] => True
  | (g, _, _) :: r => Nes g r ∧ Nds r
end Go.Proofs.Ytgbbhkdaalnchaa
