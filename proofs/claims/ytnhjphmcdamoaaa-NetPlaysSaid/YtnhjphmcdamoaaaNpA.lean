/-
  Both nets in memory. No program here but their types.
-/
import Derived.Test.YtnhjphmcdamoaaaNdD
import Derived.Test.YtnhjphmcdamoaaaNtG
namespace Go.Proofs.Ytnhjphmcdamoaaa
set_option linter.unusedVariables false
set_option linter.unusedSimpArgs false
open Go.RowKit Go
set_option maxRecDepth 100000

theorem blk_ne {w : World} {g g' : Nat} {t t' : TypeId} {cs cs' : Array Value} (h : Blk w g t cs) (h' : Blk w g' t' cs') (hne : t ≠ t') : g ≠ g' := fun e => by
  subst e
  unfold Blk at h h'
  rw [h] at h'
  injection h' with h3
  injection h3 with _ h4
  exact hne h4
/-- The program's net and the document's, apart, beside the blocks bs. -/
structure Both (w0 w : World) (bs : List (Nat × TypeId × Array Value)) (ha hd : Nat) (s : Value) (X : List Mc) (L : List Ms) (C : Nat → Bool) (s2 : Value) (X2 : List Mc) (L2 : List Ms) (C2 : Nat → Bool) : Prop where
  a : Net w0 w bs ha s X L C
  d : Doc w0 w hd s2 X2 L2 C2
  ap : s.ownBlock = none ∨ s.ownBlock ≠ s2.ownBlock
  far : ∀ g t cs, (g, t, cs) ∈ bs → g ≠ hd ∧ s2.ownBlock ≠ some g
section
variable {w0 w w' w'' : World} {bs : List (Nat × TypeId × Array Value)} {ha hd : Nat} {s s2 : Value} {X X2 : List Mc} {L L' L2 L2' : List Ms} {C C' C2 C2' : Nat → Bool}
theorem Both.ne (B : Both w0 w bs ha hd s X L C s2 X2 L2 C2) : ha ≠ hd := blk_ne B.a.blk B.d.blk (by decide)
theorem Both.s_hd (B : Both w0 w bs ha hd s X L C s2 X2 L2 C2) : s.ownBlock ≠ some hd := own_blk_ne B.a.own B.d.blk (by decide)
theorem Both.s2_ha (B : Both w0 w bs ha hd s X L C s2 X2 L2 C2) : s2.ownBlock ≠ some ha := own_blk_ne B.d.own B.a.blk (by decide)
theorem Both.call (B : Both w0 w bs ha hd s X L C s2 X2 L2 C2) (hb : Below w.heap.size w w') : Both w0 w' bs ha hd s X L C s2 X2 L2 C2 := ⟨B.a.call hb, B.d.call hb, B.ap, B.far⟩
theorem Both.push (B : Both w0 w bs ha hd s X L C s2 X2 L2 C2) {g : Nat} {t : TypeId} {cs : Array Value} (hg : w.heap.size = g) : Both w0 (w.alloc (.cells cs t)) ((g, t, cs) :: bs) ha hd s X L C s2 X2 L2 C2 := by
  refine ⟨B.a.push hg, B.d.call ((Below.refl _ _).alloc (Nat.le_refl _) _), B.ap, fun g' t' cs' hm => ?_⟩
  rcases List.mem_cons.1 hm with e | hm
  · cases e
    have h1 := B.d.blk.lt
    refine ⟨by omega, fun e => ?_⟩
    have := (B.d.own.lt _ e).2
    omega
  · exact B.far _ _ _ hm
theorem Both.drop {g : Nat} {t : TypeId} {cs : Array Value} (B : Both w0 w ((g, t, cs) :: bs) ha hd s X L C s2 X2 L2 C2) : Both w0 w bs ha hd s X L C s2 X2 L2 C2 :=
  ⟨B.a.drop, B.d, B.ap, fun g' t' cs' hm => B.far g' t' cs' (List.mem_cons_of_mem _ hm)⟩
/-- What changes one block, or one row, that is none of the document's. -/
theorem Doc.other (D : Doc w0 w hd s2 X2 L2 C2) {g : Nat} {r : Option Nat} (f : Fr w w' g r) (hg : w0.heap.size ≤ g) (hr : ∀ k, r = some k → w0.heap.size ≤ k) (h1 : hd ≠ g) (h2 : some hd ≠ r) (h3 : s2.ownBlock ≠ some g) (h4 : s2.ownBlock = none ∨ s2.ownBlock ≠ r) : Doc w0 w' hd s2 X2 L2 C2 :=
  ⟨D.b.trans (f.belowB hg hr D.b.size), f.blk D.blk h1 h2, D.hB, f.own D.own h3 h4, D.evs.imp fun _ _ _ _ hm => hm.below (f.belowB hg hr D.b.size)⟩
/-- The program's net has moved on. -/
theorem Both.opA (B : Both w0 w bs ha hd s X L C s2 X2 L2 C2) (N : NetTo w0 w w' bs ha s X L' C') : ∃ s' X', Both w0 w' bs ha hd s' X' L' C' s2 X2 L2 C2 ∧ ∀ x ∈ X', x ∈ X ∨ ∀ k, x.s.ownBlock = some k → w.heap.size ≤ k := by
  obtain ⟨s', X', n, f, hs, hx⟩ := N
  refine ⟨s', X', ⟨n, B.d.other f B.a.hB B.a.s_ge (fun e => B.ne e.symm) (fun e => B.s_hd e.symm) B.s2_ha ?_, ?_, B.far⟩, hx⟩
  · rcases B.ap with h | h
    · cases hs2 : s2.ownBlock with
      | none => exact .inl rfl
      | some k => exact .inr (by rw [h]; simp)
    · exact .inr fun e => h e.symm
  · rcases hs with h | h
    · rw [h]; exact B.ap
    · cases hk : s'.ownBlock with
      | none => exact .inl rfl
      | some k =>
        refine .inr fun e => ?_
        have h1 := h k hk
        have h2 := (B.d.own.lt k e.symm).2
        omega
/-- The net that is left alone by what changes the document's. -/
theorem Net.other (N : Net w0 w bs ha s X L C) {g : Nat} {r : Option Nat} (f : Fr w w' g r) (hg : w0.heap.size ≤ g) (hr : ∀ k, r = some k → w0.heap.size ≤ k) (h1 : ha ≠ g) (h2 : some ha ≠ r) (h3 : s.ownBlock ≠ some g) (h4 : s.ownBlock = none ∨ s.ownBlock ≠ r)
    (hbs : ∀ g' t cs, (g', t, cs) ∈ bs → g' ≠ g ∧ r ≠ some g') (hev : ∀ x ∈ X, x.s.ownBlock ≠ some g ∧ (x.s.ownBlock = none ∨ x.s.ownBlock ≠ r)) : Net w0 w' bs ha s X L C := by
  refine ⟨⟨f.below N.T.below hg hr, fun g' t cs hm => ?_⟩, N.hB, N.nes, N.nds, N.far, f.own N.own h3 h4, N.evs.imp fun x hx m _ hm => ⟨hm.eq, f.own hm.own (hev x hx).1 (hev x hx).2, hm.ok⟩⟩
  rcases List.mem_cons.1 hm with e | hm'
  · cases e; exact f.blk N.blk h1 h2
  · exact f.blk (N.T.blk g' t cs hm) (hbs g' t cs hm').1 (fun e => (hbs g' t cs hm').2 e.symm)
/-- The document's net has moved on. -/
theorem Both.opD (B : Both w0 w bs ha hd s X L C s2 X2 L2 C2) (N : DocTo w0 w w' hd s2 L2' C2') : ∃ s2' X2', Both w0 w' bs ha hd s X L C s2' X2' L2' C2' := by
  obtain ⟨s2', X2', n, f, hs⟩ := N
  refine ⟨s2', X2', B.a.other f B.d.hB B.d.s_ge B.ne (fun e => B.s2_ha e.symm) B.s_hd B.ap (fun g t cs hm => B.far g t cs hm) (fun x hx => ?_), n, ?_, fun g t cs hm => ⟨(B.far g t cs hm).1, ?_⟩⟩
  · obtain ⟨m, _, hm⟩ := B.a.evs.left hx
    exact ⟨own_blk_ne hm.own B.d.blk (by decide), own_apart hm.own B.d.own (by decide)⟩
  · rcases hs with h | h
    · rw [h]; exact B.ap
    · cases hk : s.ownBlock with
      | none => exact .inl rfl
      | some k =>
        refine .inr fun e => ?_
        have h1 := h k e.symm
        have h2 := (B.a.own.lt k hk).2
        omega
  · rcases hs with h | h
    · rw [h]; exact (B.far g t cs hm).2
    · intro e
      have h1 := h g e
      have h2 := (B.a.T.blk g t cs (List.mem_cons_of_mem _ hm)).lt
      omega
/-- The first block beside the nets has changed. -/
theorem Both.bmove {g : Nat} {t : TypeId} {cs cs' : Array Value} (B : Both w0 w ((g, t, cs) :: bs) ha hd s X L C s2 X2 L2 C2) (hg : w0.heap.size ≤ g) (ht : 68 ≠ t) (f : Fr w w' g none) (b : Blk w' g t cs') : Both w0 w' ((g, t, cs') :: bs) ha hd s X L C s2 X2 L2 C2 := by
  have hf := B.far g t cs (by simp)
  refine ⟨B.a.bmove hg ht f b, B.d.other f hg (fun _ hk => by cases hk) (fun e => hf.1 e.symm) (by simp) hf.2 (by cases s2.ownBlock <;> simp), B.ap, fun g' t' c' hm => ?_⟩
  rcases List.mem_cons.1 hm with e | hm
  · cases e; exact hf
  · exact B.far g' t' c' (by simp [hm])
/-- A block of events that is none of the nets' has changed. -/
theorem Both.evset {g : Nat} {cs : Array Value} (B : Both w0 w bs ha hd s X L C s2 X2 L2 C2) (hg : w0.heap.size ≤ g) (b : Blk w g 68 cs) (f : Fr w w' g none) (hbs : ∀ g' t c', (g', t, c') ∈ bs → t ≠ 68) (hev : ∀ x ∈ X, x.s.ownBlock ≠ some g) : Both w0 w' bs ha hd s X L C s2 X2 L2 C2 := by
  refine ⟨B.a.other f hg (fun _ hk => by cases hk) (blk_ne B.a.blk b (by decide)) (by simp) (own_blk_ne B.a.own b (by decide)) (by cases s.ownBlock <;> simp) (fun g' t c' hm => ⟨blk_ne (B.a.T.blk g' t c' (List.mem_cons_of_mem _ hm)) b (hbs g' t c' hm), by simp⟩) (fun x hx => ⟨hev x hx, by cases x.s.ownBlock <;> simp⟩),
    B.d.other f hg (fun _ hk => by cases hk) (blk_ne B.d.blk b (by decide)) (by simp) (own_blk_ne B.d.own b (by decide)) (by cases s2.ownBlock <;> simp), B.ap, B.far⟩
theorem Both.norm (B : Both w0 w bs ha hd s X L C s2 X2 L2 C2) (n : Nat) (h1 : L.length = n) (h2 : L2.length = n) : (∃ A c, s = .slice A n c) ∧ ∃ A c, s2 = .slice A n c := ⟨B.a.norm n h1, B.d.norm n h2⟩
/-- Each message's events lie below the world's end. -/
theorem Both.ev_lt (B : Both w0 w bs ha hd s X L C s2 X2 L2 C2) : ∀ x ∈ X, ∀ k, x.s.ownBlock = some k → k < w.heap.size := fun x hx k hk => by
  obtain ⟨m, _, hm⟩ := B.a.evs.left hx
  exact (hm.own.lt k hk).2
end
/-- How many are under way at most, and how many events each has. -/
structure Cap (L : List Ms) : Prop where
  le : L.length ≤ 128
  ev : ∀ m ∈ L, m.l.length ≤ 20
theorem Cap.nil : Cap [] := ⟨by decide, fun m hm => by cases hm⟩
theorem Cap.put {L : List Ms} (h : Cap L) (C : Nat → Bool) (m : Ms) (hm : m.l.length ≤ 20) : Cap (putL L C m) := by
  rcases putCases L C m with ⟨_, e, hl⟩ | ⟨_, e⟩ | ⟨_, e⟩ | ⟨_, e⟩
  · rw [e]
    refine ⟨by rw [List.length_append]; simp; omega, fun x hx => ?_⟩
    rcases List.mem_append.1 hx with hx | hx
    · exact h.ev x hx
    · obtain rfl := List.mem_singleton.1 hx; exact hm
  · rw [e]; exact h
  · rw [e]; exact h
  · rw [e]; exact h
theorem Cap.erase {L : List Ms} (h : Cap L) (k : Nat) : Cap (L.eraseIdx k) := ⟨Nat.le_trans (List.length_eraseIdx_le L k) h.le, fun m hm => h.ev m (List.mem_of_mem_eraseIdx hm)⟩
theorem Cap.snoc {L : List Ms} (h : Cap L) {x : Ms} (hx : x ∈ L) (hl : L.length < 128) : Cap (L ++ [x]) := by
  refine ⟨by rw [List.length_append]; simp; omega, fun m hm => ?_⟩
  rcases List.mem_append.1 hm with hm | hm
  · exact h.ev m hm
  · obtain rfl := List.mem_singleton.1 hm; exact h.ev _ hx
end Go.Proofs.Ytnhjphmcdamoaaa
