/-
  A net in memory: its block, the row of its messages, each message's events. No program here.
-/
import Derived.Test.YtnhjphmcdamoaaaNt2
namespace Go.Proofs.Ytnhjphmcdamoaaa
set_option linter.unusedVariables false
set_option linter.unusedSimpArgs false
open Go.RowKit

/-- Two lists go together. -/
def All2 {α β : Type} (R : α → β → Prop) : List α → List β → Prop
  | [], [] => True
  | x :: X, m :: L => R x m ∧ All2 R X L
  | _, _ => False
section
variable {α β : Type} {R R' : α → β → Prop}
theorem All2.len : ∀ {X : List α} {L : List β}, All2 R X L → X.length = L.length
  | [], [], _ => rfl
  | _ :: _, _ :: _, h => by simp [All2.len h.2]
  | [], _ :: _, h => by cases h
  | _ :: _, [], h => by cases h
theorem All2.get : ∀ {X : List α} {L : List β} {i : Nat} {m : β}, All2 R X L → L[i]? = some m → ∃ x, X[i]? = some x ∧ R x m
  | [], [], _, _, _, hi => by simp at hi
  | x :: _, m :: _, 0, _, h, hi => by
    simp at hi
    subst hi
    exact ⟨x, by simp, h.1⟩
  | _ :: _, _ :: _, i + 1, _, h, hi => by
    obtain ⟨x, h1, h2⟩ := All2.get (i := i) h.2 (by simpa using hi)
    exact ⟨x, by simpa using h1, h2⟩
  | [], _ :: _, _, _, h, _ => by cases h
  | _ :: _, [], _, _, h, _ => by cases h
theorem All2.snoc : ∀ {X : List α} {L : List β} {x : α} {m : β}, All2 R X L → R x m → All2 R (X ++ [x]) (L ++ [m])
  | [], [], _, _, _, h => ⟨h, trivial⟩
  | _ :: _, _ :: _, _, _, h, h2 => ⟨h.1, All2.snoc h.2 h2⟩
  | [], _ :: _, _, _, h, _ => by cases h
  | _ :: _, [], _, _, h, _ => by cases h
theorem All2.erase : ∀ {X : List α} {L : List β} (i : Nat), All2 R X L → All2 R (X.eraseIdx i) (L.eraseIdx i)
  | [], [], _, _ => trivial
  | _ :: _, _ :: _, 0, h => h.2
  | _ :: _, _ :: _, i + 1, h => ⟨h.1, All2.erase i h.2⟩
  | [], _ :: _, _, h => by cases h
  | _ :: _, [], _, h => by cases h
theorem All2.imp : ∀ {X : List α} {L : List β}, (∀ x ∈ X, ∀ m ∈ L, R x m → R' x m) → All2 R X L → All2 R' X L
  | [], [], _, _ => trivial
  | x :: X, m :: L, h, h2 => ⟨h x (by simp) m (by simp) h2.1, All2.imp (fun x hx m hm => h x (by simp [hx]) m (by simp [hm])) h2.2⟩
  | [], _ :: _, _, h => by cases h
  | _ :: _, [], _, h => by cases h
theorem All2.left : ∀ {X : List α} {L : List β} {x : α}, All2 R X L → x ∈ X → ∃ m ∈ L, R x m
  | [], [], _, _, hx => by cases hx
  | x :: X, m :: L, y, h, hx => by
    rcases List.mem_cons.1 hx with rfl | hx
    · exact ⟨m, by simp, h.1⟩
    · obtain ⟨m', h1, h2⟩ := All2.left h.2 hx
      exact ⟨m', by simp [h1], h2⟩
  | [], _ :: _, _, h, _ => by cases h
  | _ :: _, [], _, h, _ => by cases h
end

/-- A message's cells, and its events in memory of its own. -/
structure Mx (b : Nat) (w : World) (x : Mc) (m : Ms) : Prop where
  eq : x = ⟨m.k, m.f, m.t, m.d, x.s, m.n, m.a⟩
  own : w.ownsRow b 68 14 x.s m.l.length (ecells m.l)
  ok : m.ok
theorem Mx.sl {b : Nat} {w : World} {x : Mc} {m : Ms} (h : Mx b w x m) : x.sl := by
  obtain ⟨A, c, e, -⟩ := own_open h.own
  exact ⟨A, _, c, e⟩
/-- All blocks stay but h and the row r. -/
structure Fr (w w' : World) (h : Nat) (r : Option Nat) : Prop where
  os : w'.os = w.os
  tape : w'.tape = w.tape
  output : w'.output = w.output
  size : w.heap.size ≤ w'.heap.size
  block : ∀ k, k < w.heap.size → k ≠ h → some k ≠ r → w'.heap[k]? = w.heap[k]?
section
variable {w w' w'' : World} {h : Nat} {r : Option Nat}
theorem Fr.of_below (b : Below w.heap.size w w') : Fr w w' h r := ⟨b.os, b.tape, b.output, b.size, fun k hk _ _ => b.block k hk⟩
theorem Fr.of_grown (g : w.grownBy w' r) : Fr w w' h r := ⟨g.os, g.tape, g.output, g.size, fun k hk _ hr => g.block k hk hr⟩
theorem Fr.of_set (p : Addr) (hp : p.block = h) (u : Value) : Fr w (w.setCell p u) h r := ⟨rfl, rfl, rfl, by simp, fun k _ hk _ => by
  subst hp
  exact heap_setCell_other w p k u hk⟩
theorem Fr.trans (a : Fr w w' h r) (b : Fr w' w'' h r) : Fr w w'' h r :=
  ⟨b.os.trans a.os, b.tape.trans a.tape, b.output.trans a.output, Nat.le_trans a.size b.size, fun k hk h1 h2 => (b.block k (Nat.lt_of_lt_of_le hk a.size) h1 h2).trans (a.block k hk h1 h2)⟩
/-- The second step's row is the first one's, or newer than all. -/
theorem Fr.trans' {r' : Option Nat} (a : Fr w w' h r) (b : Fr w' w'' h r') (hr : r' = r ∨ ∀ k, r' = some k → w.heap.size ≤ k) : Fr w w'' h r :=
  ⟨b.os.trans a.os, b.tape.trans a.tape, b.output.trans a.output, Nat.le_trans a.size b.size, fun k hk h1 h2 => (b.block k (Nat.lt_of_lt_of_le hk a.size) h1 (by
    rcases hr with rfl | hr
    · exact h2
    · intro e; have := hr k e.symm; omega)).trans (a.block k hk h1 h2)⟩
theorem Fr.refl : Fr w w h r := ⟨rfl, rfl, rfl, Nat.le_refl _, fun _ _ _ _ => rfl⟩
theorem Fr.drew (a : Fr w w' h r) : Fr w w'.drew h r := ⟨a.os, a.tape, a.output, a.size, a.block⟩
theorem Fr.set (a : Fr w w' h r) (p : Addr) (hp : p.block = h) (u : Value) : Fr w (w'.setCell p u) h r := a.trans (Fr.of_set p hp u)
theorem Fr.row (a : Fr w w' h r) (cs : Array Value) : Fr w (w'.setRow h cs) h r := a.trans ⟨rfl, rfl, rfl, by simp [World.setRow], fun k _ hk _ => setRow_other w' h k _ hk⟩
theorem Fr.weak (a : Fr w w' h none) : Fr w w' h r := ⟨a.os, a.tape, a.output, a.size, fun k hk h1 _ => a.block k hk h1 (by simp)⟩
theorem Fr.blk {g : Nat} {t : TypeId} {cs : Array Value} (f : Fr w w' h r) (b : Blk w g t cs) (h1 : g ≠ h) (h2 : some g ≠ r) : Blk w' g t cs := (f.block g b.lt h1 h2).trans b
theorem Fr.own {base : Nat} {e : TypeId} {size : Nat} {v : Value} {n : Nat} {xs : List Value} (f : Fr w w' h r) (o : w.ownsRow base e size v n xs) (h1 : v.ownBlock ≠ some h) (h2 : v.ownBlock = none ∨ v.ownBlock ≠ r) : w'.ownsRow base e size v n xs := by
  refine ⟨o.1, ?_⟩
  rcases o.2 with hn | ⟨g, cap, cur, rfl, hb, hg, rest⟩
  · exact .inl hn
  · refine .inr ⟨g, cap, cur, rfl, hb, ?_, rest⟩
    rw [f.block g (Array.getElem?_eq_some_iff.1 hg).1 (fun e => h1 (by simp [Value.ownBlock, e])) (by simpa [Value.ownBlock] using h2)]
    exact hg
theorem Fr.below {w0 : World} (f : Fr w w' h r) (b : Below w0.heap.size w0 w) (h1 : w0.heap.size ≤ h) (h2 : ∀ k, r = some k → w0.heap.size ≤ k) : Below w0.heap.size w0 w' :=
  ⟨f.os.trans b.os, f.tape.trans b.tape, f.output.trans b.output, Nat.le_trans b.size f.size, fun k hk => (f.block k (Nat.lt_of_lt_of_le hk b.size) (by omega) (fun e => by have := h2 k e.symm; omega)).trans (b.block k hk)⟩
end
theorem own_blk_ne {w : World} {base g : Nat} {e t : TypeId} {size n : Nat} {v : Value} {xs : List Value} {cs : Array Value} (o : w.ownsRow base e size v n xs) (b : Blk w g t cs) (hne : e ≠ t) : v.ownBlock ≠ some g := by
  rcases o.2 with ⟨rfl, _⟩ | ⟨g', cap, cur, rfl, _, hg, _⟩
  · simp [Value.ownBlock]
  · intro e2
    obtain rfl : g' = g := by simpa [Value.ownBlock] using e2
    unfold Blk at b
    rw [hg] at b
    injection b with h3
    injection h3 with _ h4
    exact hne h4

theorem Nes.of {g : Nat} : ∀ {bs : List (Nat × TypeId × Array Value)}, (∀ g' t cs, (g', t, cs) ∈ bs → g' ≠ g) → Nes g bs
  | [], _ => trivial
  | (g', t, cs) :: r, h => ⟨h g' t cs (by simp), Nes.of fun g2 t2 c2 hm => h g2 t2 c2 (by simp [hm])⟩
/-- All of these blocks differ. -/
@[reducible] def Nds : List (Nat × TypeId × Array Value) → Prop
  | [] => True
  | (g, _, _) :: r => Nes g r ∧ Nds r
/-- A net at block h, beside the blocks bs: its messages' slice s, their cells X, the messages L, the cuts C. -/
structure Net (w0 w : World) (bs : List (Nat × TypeId × Array Value)) (h : Nat) (s : Value) (X : List Mc) (L : List Ms) (C : Nat → Bool) : Prop where
  T : Trk w0 w ((h, 82, netA s C) :: bs)
  hB : w0.heap.size ≤ h
  nes : Nes h bs
  nds : Nds bs
  far : ∀ g t cs, (g, t, cs) ∈ bs → s.ownBlock ≠ some g
  own : w.ownsRow w0.heap.size 48 12 s X.length (mcells X)
  evs : All2 (Mx w0.heap.size w) X L
section
variable {w0 w w' : World} {bs : List (Nat × TypeId × Array Value)} {h : Nat} {s : Value} {X : List Mc} {L : List Ms} {C : Nat → Bool}
theorem Net.blk (N : Net w0 w bs h s X L C) : Blk w h 82 (netA s C) := N.T.blk _ _ _ List.mem_cons_self
theorem Net.sl (N : Net w0 w bs h s X L C) : ∀ x ∈ X, x.sl := fun x hx => by
  obtain ⟨m, _, hm⟩ := N.evs.left hx
  exact hm.sl
theorem Net.s_ne (N : Net w0 w bs h s X L C) : s.ownBlock ≠ some h := own_blk_ne N.own N.blk (by decide)
theorem Net.s_ge (N : Net w0 w bs h s X L C) : ∀ k, s.ownBlock = some k → w0.heap.size ≤ k := fun k hk => (N.own.lt k hk).1
/-- A message's events lie neither in the net's block nor in its row. -/
theorem Net.ev_ne (N : Net w0 w bs h s X L C) {b : Nat} {v : Value} {n : Nat} {xs : List Value} (o : w.ownsRow b 68 14 v n xs) : v.ownBlock ≠ some h ∧ (v.ownBlock = none ∨ v.ownBlock ≠ s.ownBlock) :=
  ⟨own_blk_ne o N.blk (by decide), own_apart o N.own (by decide)⟩
theorem Net.trk (N : Net w0 w bs h s X L C) (f : Fr w w' h s.ownBlock) {cs : Array Value} (b : Blk w' h 82 cs) : Trk w0 w' ((h, 82, cs) :: bs) :=
  ⟨f.below N.T.below N.hB N.s_ge, fun g t cs' hm => by
    rcases List.mem_cons.1 hm with e | hm
    · cases e; exact b
    · exact f.blk (N.T.blk _ _ _ (List.mem_cons_of_mem _ hm)) (N.nes.out _ _ _ hm) (fun e => N.far _ _ _ hm e.symm)⟩
theorem Net.evs' (N : Net w0 w bs h s X L C) (f : Fr w w' h s.ownBlock) : All2 (Mx w0.heap.size w') X L :=
  N.evs.imp fun _ _ _ _ hm => ⟨hm.eq, f.own hm.own (N.ev_ne hm.own).1 (N.ev_ne hm.own).2, hm.ok⟩
/-- The net's block and its row have changed, and nothing else that was. -/
theorem Net.move (N : Net w0 w bs h s X L C) (f : Fr w w' h s.ownBlock) {s' : Value} {C' : Nat → Bool} {X' : List Mc} {L' : List Ms} (b : Blk w' h 82 (netA s' C')) (own' : w'.ownsRow w0.heap.size 48 12 s' X'.length (mcells X'))
    (hs : s'.ownBlock = s.ownBlock ∨ ∀ k, s'.ownBlock = some k → w.heap.size ≤ k) (evs' : All2 (Mx w0.heap.size w') X' L') : Net w0 w' bs h s' X' L' C' := by
  refine ⟨N.trk f b, N.hB, N.nes, N.nds, fun g t cs hm => ?_, own', evs'⟩
  rcases hs with hs | hs
  · rw [hs]; exact N.far _ _ _ hm
  · intro e
    have h1 := hs _ e
    have h2 := (N.T.blk _ _ _ (List.mem_cons_of_mem _ hm)).lt
    omega
/-- The net's block alone has changed. -/
theorem Net.turn (N : Net w0 w bs h s X L C) (f : Fr w w' h none) {C' : Nat → Bool} (b : Blk w' h 82 (netA s C')) : Net w0 w' bs h s X L C' :=
  N.move f.weak b (f.own N.own N.s_ne (by cases s.ownBlock <;> simp)) (.inl rfl) (N.evs' f.weak)
/-- A call that leaves all that was. -/
theorem Net.call (N : Net w0 w bs h s X L C) (hb : Below w.heap.size w w') : Net w0 w' bs h s X L C :=
  ⟨N.T.call hb, N.hB, N.nes, N.nds, N.far, ownsRow_below N.own hb, N.evs.imp fun _ _ _ _ hm => ⟨hm.eq, ownsRow_below hm.own hb, hm.ok⟩⟩
/-- A block more. -/
theorem Net.push (N : Net w0 w bs h s X L C) {g : Nat} {t : TypeId} {cs : Array Value} (hg : w.heap.size = g) : Net w0 (w.alloc (.cells cs t)) ((g, t, cs) :: bs) h s X L C := by
  have N2 := N.call (w' := w.alloc (.cells cs t)) ((Below.refl _ _).alloc (Nat.le_refl _) _)
  have hlt := N.T.lt
  refine ⟨(N.T.push (t := t) (cs := cs) hg).perm (by intro x hx; simp at hx ⊢; rcases hx with hx | hx | hx <;> simp [hx]), N.hB, ⟨by omega, N.nes⟩, ⟨Nes.of fun g' t' cs' hm => by have := (N.T.blk g' t' cs' (List.mem_cons_of_mem _ hm)).lt; omega, N.nds⟩, fun g' t' cs' hm => ?_, N2.own, N2.evs⟩
  rcases List.mem_cons.1 hm with e | hm
  · cases e
    intro e2
    have := (N.own.lt _ e2).2
    omega
  · exact N.far _ _ _ hm
theorem Net.drew (N : Net w0 w bs h s X L C) : Net w0 w.drew bs h s X L C := N.call (Below.refl _ _).drew
theorem Net.drop {g : Nat} {t : TypeId} {cs : Array Value} (N : Net w0 w ((g, t, cs) :: bs) h s X L C) : Net w0 w bs h s X L C :=
  ⟨N.T.perm (by intro x hx; simp at hx ⊢; rcases hx with hx | hx <;> simp [hx]), N.hB, N.nes.2, N.nds.2, fun g' t' cs' hm => N.far g' t' cs' (List.mem_cons_of_mem _ hm), N.own, N.evs⟩
theorem Net.swap {a b : Nat × TypeId × Array Value} (N : Net w0 w (a :: b :: bs) h s X L C) : Net w0 w (b :: a :: bs) h s X L C := by
  obtain ⟨ga, ta, ca⟩ := a
  obtain ⟨gb, tb, cb⟩ := b
  refine ⟨N.T.perm (by intro x hx; simp at hx ⊢; rcases hx with hx | hx | hx | hx <;> simp [hx]), N.hB, ⟨N.nes.2.1, N.nes.1, N.nes.2.2⟩, ⟨⟨fun e => N.nds.1.1 e.symm, N.nds.2.1⟩, N.nds.1.2, N.nds.2.2⟩, fun g' t' cs' hm => N.far g' t' cs' ?_, N.own, N.evs⟩
  simp at hm ⊢
  rcases hm with hm | hm | hm <;> simp [hm]
/-- The first block beside the net has changed, and nothing else that was. -/
theorem Net.bmove {g : Nat} {t : TypeId} {cs cs' : Array Value} (N : Net w0 w ((g, t, cs) :: bs) h s X L C) (hg : w0.heap.size ≤ g) (ht : 68 ≠ t) (f : Fr w w' g none) (b : Blk w' g t cs') : Net w0 w' ((g, t, cs') :: bs) h s X L C := by
  have hbg := N.T.blk g t cs (by simp)
  have far : ∀ {v : Value} {n : Nat} {xs : List Value} {e : TypeId} {size : Nat}, v.ownBlock ≠ some g → w.ownsRow w0.heap.size e size v n xs → w'.ownsRow w0.heap.size e size v n xs := fun {v} _ _ _ _ h1 o => f.own o h1 (by cases v.ownBlock <;> simp)
  refine ⟨⟨f.below N.T.below hg (fun k hk => by cases hk), fun g' t' c' hm => ?_⟩, N.hB, N.nes, N.nds, fun g' t' c' hm => ?_, far (N.far g t cs (by simp)) N.own, N.evs.imp fun _ _ _ _ hm => ⟨hm.eq, far (own_blk_ne hm.own hbg ht) hm.own, hm.ok⟩⟩
  · rcases List.mem_cons.1 hm with e | hm
    · cases e; exact f.blk N.blk (fun e => N.nes.1 e.symm) (by simp)
    · rcases List.mem_cons.1 hm with e | hm
      · cases e; exact b
      · exact f.blk (N.T.blk g' t' c' (by simp [hm])) (N.nds.1.out _ _ _ hm) (by simp)
  · rcases List.mem_cons.1 hm with e | hm
    · cases e; exact N.far g t cs (by simp)
    · exact N.far g' t' c' (by simp [hm])
end
end Go.Proofs.Ytnhjphmcdamoaaa
