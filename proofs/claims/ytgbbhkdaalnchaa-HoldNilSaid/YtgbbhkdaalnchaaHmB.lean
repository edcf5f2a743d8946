/-
  The walks of package hold: New, Len; Put and Next where there is no hold.
-/
import Derived.Test.YtgbbhkdaalnchaaHmA
import Derived.Test.YtgbbhkdaalnchaaOLa
namespace Go.Proofs.Ytgbbhkdaalnchaa
set_option linter.unusedVariables false
set_option linter.unusedSimpArgs false
open Go.RowKit Go
set_option maxRecDepth 100000

/-- A hold at block h, its map at block m. -/
structure HO (w : World) (h m : Nat) (L : List Ev) : Prop where
  blk : Blk w h 90 #[.map (some m)]
  map : HMap w m L
section
variable {w w' : World} {h m : Nat} {L L' : List Ev}
theorem HO.ne (H : HO w h m L) : h ≠ m := fun e => by
  subst e
  obtain ⟨es, clock, hb, _⟩ := H.map.ex
  have := H.blk
  unfold Blk at this
  rw [this] at hb
  cases hb
theorem HO.call (H : HO w h m L) (hb : Below w.heap.size w w') : HO w' h m L := ⟨H.blk.below hb H.blk.lt, H.map.call hb⟩
theorem HO.perm (H : HO w h m L) (p : L.Perm L') : HO w h m L' := ⟨H.blk, H.map.perm p⟩
theorem HO.fr {g : Nat} {r : Option Nat} (H : HO w h m L) (f : Fr w w' g r) (h1 : h ≠ g) (h2 : some h ≠ r) (h3 : m ≠ g) (h4 : some m ≠ r) : HO w' h m L := ⟨f.blk H.blk h1 h2, H.map.fr f h3 h4⟩
/-- The map has turned. -/
theorem HO.turn (H : HO w h m L) (f : Fr w w' m none) (hm : HMap w' m L') : HO w' h m L' := ⟨f.blk H.blk H.ne (by simp), hm⟩
/-- A new hold. -/
def NewHold (w w' : World) (u : Value) : Prop := ∃ h m, u = .pointer (some ⟨h, 0, none⟩) ∧ HO w' h m [] ∧ w.heap.size ≤ h ∧ w.heap.size ≤ m ∧ Below w.heap.size w w'
theorem hnew (w : World) : Calls Try.prog 13 #[] w fun r w' => ∃ u, r = .returned u ∧ NewHold w w' u := by
  have hmm := @run_makeMap Try.prog
  go_enter Try.func13, Try.ntmps13
  go_wp2_with fail
  go_ret
  refine ⟨_, rfl, w.heap.size + 1, w.heap.size, by simp, ⟨Blk.new_at (by simp) rfl, (HMap.made w).call ((Below.refl _ _).alloc (Nat.le_refl _) _)⟩, by omega, by omega, ((Below.refl _ _).alloc (Nat.le_refl _) _).alloc (by simp) _⟩
theorem hlen_nil (w : World) : Calls Try.prog 15 #[.pointer none] w fun r w' => r = .returned (.int .i64 0) ∧ w = w' := by
  go_enter Try.func15, Try.ntmps15
  go_wp2_with fail
  go_ret
  exact ⟨rfl, rfl⟩
theorem hlen (H : HO w h m L) : Calls Try.prog 15 #[.pointer (some ⟨h, 0, none⟩)] w fun r w' => r = .returned (.int .i64 L.length) ∧ w = w' := by
  obtain ⟨q, -⟩ := H.blk.rules
  have hl := fun ty => H.map.len ty
  go_enter Try.func15, Try.ntmps15
  go_wp2_with fail
  go_ret
  exact ⟨rfl, rfl⟩
theorem hput_nil (v : Vec) (e : Ev) (w : World) : Calls Try.prog 14 #[.pointer none, .agg (vecA v), .agg (evA e)] w fun r w' => r = .returned (.int .i64 2) ∧ Below w.heap.size w w' := by
  go_enter Try.func14, Try.ntmps14
  go_wp2_with fail
  go_ret
  exact ⟨rfl, ((Below.refl _ _).alloc (Nat.le_refl _) _).alloc (by simp) _⟩
theorem hnext_nil (v : Vec) (w : World) : Calls Try.prog 16 #[.pointer none, .agg (vecA v)] w fun r w' => r = .returned (.tuple #[.agg (evA Ev.zero), .bool false]) ∧ Below w.heap.size w w' := by
  go_enter Try.func16, Try.ntmps16
  go_wp2_with fail
  refine bodyPost_ret (v := .tuple #[.agg (evA Ev.zero), .bool false]) (by simp [results, Try.results16, go_sem]) rfl ⟨rfl, ?_⟩
  exact ((Below.refl _ _).alloc (Nat.le_refl _) _).alloc (by simp) _
end
end Go.Proofs.Ytgbbhkdaalnchaa
