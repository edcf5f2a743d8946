/-
  The document's net in memory; the walk of its Put.
-/
import Derived.Test.YtnhjphmcdamoaaaNtC
namespace Go.Proofs.Ytnhjphmcdamoaaa
set_option linter.unusedVariables false
set_option linter.unusedSimpArgs false
open Go.RowKit Go
set_option maxRecDepth 100000

/-- A message's cells; its events were there ahead. -/
structure My (B : Nat) (w : World) (x : Mc) (m : Ms) : Prop where
  ex : ∃ A c, x = ⟨m.k, m.f, m.t, m.d, .slice A m.l.length c, m.n, m.a⟩ ∧ m.l.length ≤ c ∧ c ≤ maxLen ∧ ERows w B A m.l
  ok : m.ok
theorem My.below {B : Nat} {w w' : World} {x : Mc} {m : Ms} (h : My B w x m) (hb : Below B w w') : My B w' x m := by
  obtain ⟨A, c, e, h1, h2, h3⟩ := h.ex
  exact ⟨⟨A, c, e, h1, h2, h3.below hb⟩, h.ok⟩
theorem My.sl {B : Nat} {w : World} {x : Mc} {m : Ms} (h : My B w x m) : x.sl := by
  obtain ⟨A, c, rfl, -⟩ := h.ex
  exact ⟨A, _, c, rfl⟩
/-- The document's net at block h. -/
structure Doc (w0 w : World) (h : Nat) (s : Value) (X : List Mc) (L : List Ms) (C : Nat → Bool) : Prop where
  b : Below w0.heap.size w0 w
  blk : Blk w h 64 (netA s C)
  hB : w0.heap.size ≤ h
  own : w.ownsRow w0.heap.size 48 12 s X.length (mcells X)
  evs : All2 (My w0.heap.size w) X L
section
variable {w0 w w' w'' : World} {h : Nat} {s : Value} {X : List Mc} {L L' : List Ms} {C C' : Nat → Bool}
theorem Fr.belowB {r : Option Nat} (f : Fr w w' h r) {B : Nat} (h1 : B ≤ h) (h2 : ∀ k, r = some k → B ≤ k) (hB : B ≤ w.heap.size) : Below B w w' :=
  ⟨f.os, f.tape, f.output, f.size, fun k hk => f.block k (by omega) (by omega) (fun e => by have := h2 k e.symm; omega)⟩
theorem Doc.s_ge (N : Doc w0 w h s X L C) : ∀ k, s.ownBlock = some k → w0.heap.size ≤ k := fun k hk => (N.own.lt k hk).1
theorem Doc.s_ne (N : Doc w0 w h s X L C) : s.ownBlock ≠ some h := own_blk_ne N.own N.blk (by decide)
theorem Doc.sl (N : Doc w0 w h s X L C) : ∀ x ∈ X, x.sl := fun x hx => by
  obtain ⟨m, _, hm⟩ := N.evs.left hx
  exact hm.sl
theorem Doc.norm (N : Doc w0 w h s X L C) (n : Nat) (hn : L.length = n) : ∃ A c, s = .slice A n c := by
  obtain ⟨A, c, e, -⟩ := own_open N.own
  exact ⟨A, c, by rw [e, N.evs.len, hn]⟩
theorem Doc.move (N : Doc w0 w h s X L C) (f : Fr w w' h s.ownBlock) {s' : Value} {X' : List Mc} (b : Blk w' h 64 (netA s' C')) (own' : w'.ownsRow w0.heap.size 48 12 s' X'.length (mcells X'))
    (evs' : All2 (My w0.heap.size w') X' L') : Doc w0 w' h s' X' L' C' :=
  ⟨N.b.trans (f.belowB N.hB N.s_ge N.b.size), b, N.hB, own', evs'⟩
theorem Doc.evs' (N : Doc w0 w h s X L C) (f : Fr w w' h s.ownBlock) : All2 (My w0.heap.size w') X L :=
  N.evs.imp fun _ _ _ _ hm => hm.below (f.belowB N.hB N.s_ge N.b.size)
theorem Doc.call (N : Doc w0 w h s X L C) (hb : Below w.heap.size w w') : Doc w0 w' h s X L C :=
  ⟨N.b.trans (hb.mono N.b.size), N.blk.below hb N.blk.lt, N.hB, ownsRow_below N.own hb, N.evs.imp fun _ _ _ _ hm => hm.below (hb.mono N.b.size)⟩
def DocTo (w0 w w' : World) (h : Nat) (s : Value) (L' : List Ms) (C' : Nat → Bool) : Prop :=
  ∃ s' X', Doc w0 w' h s' X' L' C' ∧ Fr w w' h s.ownBlock ∧ (s'.ownBlock = s.ownBlock ∨ ∀ k, s'.ownBlock = some k → w.heap.size ≤ k)
theorem DocTo.same (N : Doc w0 w h s X L C) (hb : Below w.heap.size w w') : DocTo w0 w w' h s L C := ⟨s, X, N.call hb, Fr.of_below hb, .inl rfl⟩
/-- One message more. -/
theorem doc_put {w4 w5 : World} {m : Ms} {y : Mc} {v' : Value} (N4 : Doc w0 w4 h s X L C) (B : Below w.heap.size w w4) (hy : My w0.heap.size w4 y m) (o : Obj) (hg : (w4.alloc o).grownBy w5 s.ownBlock)
    (hown' : w5.ownsRow w0.heap.size 48 12 v' (X ++ [y]).length (mcells (X ++ [y]))) (hf' : v'.ownBlock = s.ownBlock ∨ ∀ b, v'.ownBlock = some b → (w4.alloc o).heap.size ≤ b) :
    DocTo w0 w (w5.setCell ⟨h, 0, none⟩ v') h s (L ++ [m]) C := by
  have F1 : Fr w4 (w4.alloc o) h s.ownBlock := Fr.of_below ((Below.refl _ _).alloc (Nat.le_refl _) _)
  have F2 : Fr w4 w5 h s.ownBlock := F1.trans (Fr.of_grown hg)
  have F3 : Fr w4 (w5.setCell ⟨h, 0, none⟩ v') h s.ownBlock := F2.set _ rfl _
  have b5 : Blk w5 h 64 (netA s C) := (hg.block h (Nat.lt_of_lt_of_le N4.blk.lt (by simp)) (fun e => N4.s_ne e.symm)).trans (N4.blk.alloc o)
  have b6 : Blk (w5.setCell ⟨h, 0, none⟩ v') h 64 (netA v' C) := by rw [← netA_set0 s v' C]; exact b5.set_ 0 v'
  have own6 := (Fr.of_set (w := w5) (r := none) ⟨h, 0, none⟩ rfl v').own hown' (own_blk_ne hown' b5 (by decide)) (by cases v'.ownBlock <;> simp)
  have hz : w4.heap.size ≤ (w4.alloc o).heap.size := by simp
  have hz2 := B.size
  exact ⟨v', X ++ [y], N4.move F3 b6 own6 (All2.snoc (N4.evs' F3) (hy.below (F3.belowB N4.hB N4.s_ge N4.b.size))), (Fr.of_below B).trans F3, hf'.imp id fun hh k hk => Nat.le_trans hz2 (Nat.le_trans hz (hh k hk))⟩
theorem rput_not (m : Ms) (o : m.ok) (hm : mmayB m = false) (A : Option Addr) (c : Nat) (hL : ERows w w.heap.size A m.l) (hc : m.l.length ≤ c) (hmx : c ≤ maxLen) :
    Calls Try.prog 41 #[.pointer (some ⟨h, 0, none⟩), .agg (mcA ⟨m.k, m.f, m.t, m.d, .slice A m.l.length c, m.n, m.a⟩)] w fun e w' => e = .returned (.int .i64 1) ∧ Below w.heap.size w w' := by
  have C1 := Lib.hid fun (W : World) (hW : Below w.heap.size w W) => rmay20' m o false hm A c W ((hL.below hW).mono hW.size) hc hmx
  clear hL o hm
  go_enter Try.func41, Try.ntmps41
  go_wp2_with fail
  have T0 : Trk w _ [(w.heap.size, 48, mcA ⟨m.k, m.f, m.t, m.d, .slice A m.l.length c, m.n, m.a⟩)] := (Trk.nil w).push (t := 48) (cs := mcA ⟨m.k, m.f, m.t, m.d, .slice A m.l.length c, m.n, m.a⟩) rfl
  refine (C1.out _ T0.below).mono ?_
  rintro r w2 ⟨rfl, hb⟩
  have T2 := T0.call hb
  clear T0 hb
  go_wp2_with fail
  go_ret
  exact ⟨rfl, T2.below⟩
end
end Go.Proofs.Ytnhjphmcdamoaaa
