/-
  What the statements of chapter 15 share: Few; World.Do in all; a load of an act.
  The hold, what is known, and the world of before, while events are put and taken.
-/
import Derived.Test.YtgbbhkdaalnchaaWf
import Derived.Test.YtgbbhkdaalnchaaGS
import Derived.Test.YtgbbhkdaalnchaaHmE
import Derived.Test.YtgbbhkdaalnchaaGV
namespace Go.Proofs.Ytgbbhkdaalnchaa
set_option linter.unusedVariables false
set_option linter.unusedSimpArgs false
open Go.RowKit Go Go.BigFrame
set_option maxRecDepth 100000

section
variable (ρ : Operand → Value) (dst : Option Tmp) (x y : Operand) (ty : TypeId) (pos : String) (after : Array Edge) (guard : Option (Nat × Bool))
@[go_sem ↓ high] theorem execOp_ldAc : execOp ρ { dst, op := .load 36 x, type := ty, pos, after, guard } = ldR 36 (ρ x) := by simp [execOp, ldR]
end
theorem size_ac (x : Ac) : (Try.prog.info? 36).map (·.size) = some (acA x).size := by rw [acA_size]; kernel_rfl
theorem few (A : Option Addr) (l c : Nat) (w : World) (b : Bool) (hb : decide ((l : Int) ≤ 60) = b) : Calls Try.prog 9 #[.slice A l c] w fun r w' => r = .returned (.bool b) ∧ w = w' := by
  go_enter Try.func9, Try.ntmps9
  go_wp2_with fail
  go_ret
  exact ⟨rfl, rfl⟩
section
variable {w w' : World} {base gw : Nat} {vL vA : Value} {ls : List (Nat × Vec)} {all : List Ev}
theorem wdo (h : Wld w base gw vL vA ls all) (ok : WOk ls all) (x : Ac) (hx : x.ok) (hn : 0 < ls.length) (h6 : ls.length ≤ 6) (hl : all.length ≤ 99) :
    Calls Try.prog 12 #[.pointer (some ⟨gw, 0, none⟩), .agg (acA x)] w (DoPost base gw ls.length all.length w) := by
  cases hm : x.m with
  | true => exact wdo_meet h ok x hx hn h6 hl hm
  | false => exact wdo_act h ok x hx hn h6 hl hm
end
/-- What stands behind so many acts. -/
structure Acted (W0 w : World) (gw n m : Nat) (vL vA : Value) (ls : List (Nat × Vec)) (all : List Ev) : Prop where
  W : Wld w W0.heap.size gw vL vA ls all
  ok : WOk ls all
  len : ls.length = n
  le : all.length ≤ m
  b : Below W0.heap.size W0 w
theorem zeros_get {gs : List Nat} {i : Nat} {p : Nat × Vec} (h : (zeros gs)[i]? = some p) : p.2 = Vec.zero := by
  unfold zeros at h
  rw [List.getElem?_map] at h
  cases hg : gs[i]? with
  | none => rw [hg] at h; cases h
  | some g => rw [hg] at h; simp at h; rw [← h]
theorem acted_new {W0 w : World} {gw n : Nat} {vL vA : Value} {gs : List Nat} (h : Wld w W0.heap.size gw vL vA (zeros gs) []) (hl : gs.length = n) (hb : Below W0.heap.size W0 w) : Acted W0 w gw n 0 vL vA (zeros gs) [] :=
  ⟨h, ⟨made_nil, fun p hp => by
    obtain ⟨i, hi⟩ := List.getElem?_of_mem hp
    rw [zeros_get hi]; exact fits_zero _, fun i p hp => by rw [zeros_get hp, Vec.get_zero]; simp [cntO_nil]⟩, by simp [zeros, hl], by simp, hb⟩
theorem Acted.call {W0 w w' : World} {gw n m : Nat} {vL vA : Value} {ls : List (Nat × Vec)} {all : List Ev} (h : Acted W0 w gw n m vL vA ls all) (hb : Below w.heap.size w w') : Acted W0 w' gw n m vL vA ls all :=
  ⟨h.W.call hb, h.ok, h.len, h.le, h.b.trans (hb.mono h.b.size)⟩
end Go.Proofs.Ytgbbhkdaalnchaa
namespace Go.Proofs.Ytgbbhkdaalnchaa
set_option linter.unusedVariables false
set_option linter.unusedSimpArgs false
open Go.RowKit Go Go.BigFrame
set_option maxRecDepth 100000

/-- The hold, what is known, and the world of before, while events are put and taken. -/
structure HAs (W0 w : World) (h m gv : Nat) (all L : List Ev) (kn : Vec) : Prop where
  H : HO w h m L
  K : Blk w gv 30 (vecA kn)
  b : Below W0.heap.size W0 w
  a : HA all L kn
section
variable {W0 w w' : World} {h m gv : Nat} {all L L' : List Ev} {kn : Vec}
theorem HAs.call (S : HAs W0 w h m gv all L kn) (hb : Below w.heap.size w w') : HAs W0 w' h m gv all L kn := ⟨S.H.call hb, S.K.call hb, S.b.trans (hb.mono S.b.size), S.a⟩
theorem HAs.turn (S : HAs W0 w h m gv all L kn) (f : Fr w w' m none) (H' : HO w' h m L') (a' : HA all L' kn) (h1 : gv ≠ m) (h2 : W0.heap.size ≤ m) : HAs W0 w' h m gv all L' kn :=
  ⟨H', f.blk S.K h1 (by simp), f.below S.b h2 (fun _ h => by cases h), a'⟩
theorem HAs.know {k : Nat} {x : Int} (S : HAs W0 w h m gv all L kn) (a' : HA all L (kn.set k x)) (hk : k < 6) (h1 : gv ≠ h) (h2 : gv ≠ m) (h3 : W0.heap.size ≤ gv) : HAs W0 (w.setCell ⟨gv, k, none⟩ (.int .u64 x)) h m gv all L (kn.set k x) := by
  have f : Fr w (w.setCell ⟨gv, k, none⟩ (.int .u64 x)) gv none := Fr.of_set ⟨gv, k, none⟩ rfl _
  refine ⟨S.H.fr f (Ne.symm h1) (by simp) (Ne.symm h2) (by simp), ?_, f.below S.b h3 (fun _ h => by cases h), a'⟩
  have := S.K.set_ k (.int .u64 x)
  rw [vecA_set _ _ _ hk] at this
  exact this
theorem HAs.other {g : Nat} (S : HAs W0 w h m gv all L kn) (f : Fr w w' g none) (h1 : h ≠ g) (h2 : m ≠ g) (h3 : gv ≠ g) (h4 : W0.heap.size ≤ g) : HAs W0 w' h m gv all L kn :=
  ⟨S.H.fr f h1 (by simp) h2 (by simp), f.blk S.K h3 (by simp), f.below S.b h4 (fun _ h => by cases h), S.a⟩
end
end Go.Proofs.Ytgbbhkdaalnchaa
