/-
  Twice and Cut of both nets, whatever they are asked.
-/
import Derived.Test.YtnhjphmcdamoaaaNpA
namespace Go.Proofs.Ytnhjphmcdamoaaa
set_option linter.unusedVariables false
set_option linter.unusedSimpArgs false
open Go.RowKit Go
set_option maxRecDepth 100000

def cutG (k j : Int) : Bool := regE k && regE j && decide (k ≠ j)
def cutE (k j : Int) : Int := if cutG k j = true then 0 else 10
def cutF (C : Nat → Bool) (k j : Int) : Nat → Bool := if cutG k j = true then cutSet (cutSet C ((k - 1).toNat * 6 + (j - 1).toNat) true) ((j - 1).toNat * 6 + (k - 1).toNat) true else C
theorem cut_yes {k j : Int} (h : cutG k j = true) : ∃ i l : Nat, i < 6 ∧ l < 6 ∧ i ≠ l ∧ k = (i : Int) + 1 ∧ j = (l : Int) + 1 := by
  unfold cutG at h
  simp only [Bool.and_eq_true, decide_eq_true_eq] at h
  obtain ⟨i, hi, ei⟩ := regE_out h.1.1
  obtain ⟨l, hl, el⟩ := regE_out h.1.2
  have := h.2
  exact ⟨i, l, hi, hl, fun e => this (by omega), ei, el⟩
theorem cut_no {k j : Int} (h : cutG k j = false) : regE k = false ∨ (regE k = true ∧ regE j = false) ∨ (regE k = true ∧ regE j = true ∧ (k == j) = true) := by
  unfold cutG at h
  cases h1 : regE k with
  | false => exact .inl rfl
  | true =>
    cases h2 : regE j with
    | false => exact .inr (.inl ⟨rfl, rfl⟩)
    | true =>
      refine .inr (.inr ⟨rfl, rfl, ?_⟩)
      rw [h1, h2] at h
      simp at h
      rw [beq_iff_eq]; exact h
section
variable {w0 w : World} {bs : List (Nat × TypeId × Array Value)} {h : Nat} {s : Value} {X : List Mc} {L : List Ms} {C : Nat → Bool}
theorem ncutA (N : Net w0 w bs h s X L C) (k j : Int) : Calls Try.prog 36 #[.pointer (some ⟨h, 0, none⟩), .int .i64 k, .int .i64 j] w fun e w' => e = .returned (.int .i64 (cutE k j)) ∧ NetTo w0 w w' bs h s X L (cutF C k j) := by
  cases hg : cutG k j with
  | true =>
    obtain ⟨i, l, hi, hl, hne, rfl, rfl⟩ := cut_yes hg
    have e1 : cutE ((i : Int) + 1) ((l : Int) + 1) = 0 := by simp [cutE, hg]
    have e2 : cutF C ((i : Int) + 1) ((l : Int) + 1) = cutSet (cutSet C (i * 6 + l) true) (l * 6 + i) true := by simp [cutF, hg]
    rw [e1, e2]
    refine (ncutN N i l hi hl hne).mono ?_
    rintro e w' ⟨rfl, n, f⟩
    exact ⟨rfl, s, X, n, f.weak, .inl rfl, fun x hx => .inl hx⟩
  | false =>
    have e1 : cutE k j = 10 := by simp [cutE, hg]
    have e2 : cutF C k j = C := by simp [cutF, hg]
    rw [e1, e2]
    refine (ncut_bad h k j (cut_no hg) w).mono ?_
    rintro e w' ⟨rfl, rfl⟩
    exact ⟨rfl, .same N (Below.refl _ _)⟩
theorem rcutA (N : Doc w0 w h s X L C) (k j : Int) : Calls Try.prog 46 #[.pointer (some ⟨h, 0, none⟩), .int .i64 k, .int .i64 j] w fun e w' => e = .returned (.int .i64 (cutE k j)) ∧ DocTo w0 w w' h s L (cutF C k j) := by
  cases hg : cutG k j with
  | true =>
    obtain ⟨i, l, hi, hl, hne, rfl, rfl⟩ := cut_yes hg
    have e1 : cutE ((i : Int) + 1) ((l : Int) + 1) = 0 := by simp [cutE, hg]
    have e2 : cutF C ((i : Int) + 1) ((l : Int) + 1) = cutSet (cutSet C (i * 6 + l) true) (l * 6 + i) true := by simp [cutF, hg]
    rw [e1, e2]
    refine (rcut_ok i l hi hl hne N).mono ?_
    rintro e w' ⟨rfl, n, f⟩
    exact ⟨rfl, s, X, n, f.weak, .inl rfl⟩
  | false =>
    have e1 : cutE k j = 10 := by simp [cutE, hg]
    have e2 : cutF C k j = C := by simp [cutF, hg]
    rw [e1, e2]
    refine (rcut_bad (h := h) k j (cut_no hg) w).mono ?_
    rintro e w' ⟨rfl, rfl⟩
    exact ⟨rfl, .same N (Below.refl _ _)⟩
theorem twice_cases (L : List Ms) (k : Int) : (¬ (0 ≤ k ∧ k < (L.length : Int)) ∧ twiceC L k = 4 ∧ twiceL L k = L) ∨ (0 ≤ k ∧ k < (L.length : Int) ∧ 128 ≤ L.length ∧ twiceC L k = 7 ∧ twiceL L k = L) ∨ ∃ (i : Nat) (m : Ms), k = (i : Int) ∧ L[i]? = some m ∧ L.length < 128 ∧ twiceC L k = 0 ∧ twiceL L k = L ++ [m] := by
  by_cases h : 0 ≤ k ∧ k < (L.length : Int)
  · by_cases h8 : 128 ≤ L.length
    · exact .inr (.inl ⟨h.1, h.2, h8, by simp [twiceC, h, h8], by simp [twiceL, h, h8]⟩)
    · have hi : k.toNat < L.length := by omega
      refine .inr (.inr ⟨k.toNat, L[k.toNat], by omega, List.getElem?_eq_getElem hi, by omega, by simp [twiceC, h, h8], ?_⟩)
      simp [twiceL, h, h8, hi]
  · exact .inl ⟨h, by simp [twiceC, h], by simp [twiceL, h]⟩
theorem ntwiceA (N : Net w0 w bs h s X L C) (cap : Cap L) (k : Int) : Calls Try.prog 35 #[.pointer (some ⟨h, 0, none⟩), .int .i64 k] w fun e w' => e = .returned (.int .i64 (twiceC L k)) ∧ NetTo w0 w w' bs h s X (twiceL L k) C := by
  have hl := N.evs.len
  rcases twice_cases L k with ⟨hk, e1, e2⟩ | ⟨h1, h2, h8, e1, e2⟩ | ⟨i, m, rfl, hi, h8, e1, e2⟩
  · rw [e1, e2]
    obtain ⟨A, c, rfl, -⟩ := own_open N.own
    refine (ntwice_none k A X.length c N.blk (decide_eq_false (by rw [hl]; exact hk))).mono ?_
    rintro e w' ⟨rfl, rfl⟩
    exact ⟨rfl, .same N (Below.refl _ _)⟩
  · rw [e1, e2]
    obtain ⟨A, c, rfl, -⟩ := own_open N.own
    refine (ntwice_full k A X.length c N.blk (decide_eq_true (by rw [hl]; exact ⟨h1, h2⟩)) (by omega)).mono ?_
    rintro e w' ⟨rfl, rfl⟩
    exact ⟨rfl, .same N (Below.refl _ _)⟩
  · rw [e1, e2]
    exact ntwice_ok i m hi (by have := cap.ev m (List.mem_of_getElem? hi); omega) N (by omega)
theorem rtwiceA (N : Doc w0 w h s X L C) (k : Int) : Calls Try.prog 45 #[.pointer (some ⟨h, 0, none⟩), .int .i64 k] w fun e w' => e = .returned (.int .i64 (twiceC L k)) ∧ DocTo w0 w w' h s (twiceL L k) C := by
  have hl := N.evs.len
  rcases twice_cases L k with ⟨hk, e1, e2⟩ | ⟨h1, h2, h8, e1, e2⟩ | ⟨i, m, rfl, hi, h8, e1, e2⟩
  · rw [e1, e2]
    obtain ⟨A, c, rfl, -⟩ := own_open N.own
    refine (rtwice_none k A X.length c N.blk (by rw [hl]; exact hk)).mono ?_
    rintro e w' ⟨rfl, rfl⟩
    exact ⟨rfl, .same N (Below.refl _ _)⟩
  · rw [e1, e2]
    obtain ⟨A, c, rfl, -⟩ := own_open N.own
    refine (rtwice_full k A X.length c N.blk (by rw [hl]; exact ⟨h1, h2⟩) (by omega)).mono ?_
    rintro e w' ⟨rfl, rfl⟩
    exact ⟨rfl, .same N (Below.refl _ _)⟩
  · rw [e1, e2]
    exact rtwice_ok i m hi N (by omega)
theorem Cap.twice {L : List Ms} (c : Cap L) (k : Int) : Cap (twiceL L k) := by
  rcases twice_cases L k with ⟨_, _, e⟩ | ⟨_, _, _, _, e⟩ | ⟨i, m, _, hi, h8, _, e⟩
  · rw [e]; exact c
  · rw [e]; exact c
  · rw [e]; exact c.snoc (List.mem_of_getElem? hi) h8
end
/-- Both, at the start. -/
theorem Both.new (w : World) : Both w ((w.alloc (.cells (netA (.slice none 0 0) fun _ => false) 82)).alloc (.cells (netA (.slice none 0 0) fun _ => false) 64)) [] w.heap.size (w.heap.size + 1) (.slice none 0 0) [] [] (fun _ => false) (.slice none 0 0) [] [] fun _ => false := by
  have N := (Net.new w).call ((Below.refl _ _).alloc (Nat.le_refl _) (.cells (netA (.slice none 0 0) fun _ => false) 64 (0, 0)))
  refine ⟨N, ⟨N.T.below, Blk.new_at (by simp) rfl, by omega, World.ownsRow_nil _ _ _ _, trivial⟩, .inl rfl, fun _ _ _ hm => by cases hm⟩
/-- The document's net is healed. -/
theorem Both.healD {w0 w : World} {bs : List (Nat × TypeId × Array Value)} {ha hd : Nat} {s s2 : Value} {X X2 : List Mc} {L L2 : List Ms} {C C2 : Nat → Bool} (B : Both w0 w bs ha hd s X L C s2 X2 L2 C2) : ∃ s3 X3, Both w0 (w.setRow hd (netA s2 fun _ => false)) bs ha hd s X L C s3 X3 L2 (fun _ => false) := by
  have F : Fr w (w.setRow hd (netA s2 fun _ => false)) hd none := Fr.refl.row _
  have b : Blk (w.setRow hd (netA s2 fun _ => false)) hd 64 (netA s2 fun _ => false) := setRow_heap _ _ _ _ _ _ B.d.blk
  exact B.opD ⟨s2, X2, B.d.move F.weak b (F.own B.d.own B.d.s_ne (by cases s2.ownBlock <;> simp)) (B.d.evs' F.weak), F.weak, .inl rfl⟩
/-- How long the slice at a block's head is. -/
def valLen : Value → Nat
  | .slice _ n _ => n
  | _ => 0
def lenAt (w : World) (h : Nat) : Nat := match w.cell? ⟨h, 0, none⟩ with
  | some v => valLen v
  | none => 0
theorem lenAt_of {w : World} {h : Nat} {v : Value} (e : w.cell? ⟨h, 0, none⟩ = some v) : lenAt w h = valLen v := by unfold lenAt; rw [e]
theorem sliceLen_of {w0 w : World} {bs : List (Nat × TypeId × Array Value)} {ha hd : Nat} {s s2 : Value} {X X2 : List Mc} {L L2 : List Ms} {C C2 : Nat → Bool} (B : Both w0 w bs ha hd s X L C s2 X2 L2 C2) : valLen s2 = L2.length := by
  obtain ⟨A, c, rfl⟩ := B.d.norm L2.length rfl
  rfl
/-- The caller's own events: a block that is none of the nets'. -/
def EvSt (w : World) (B n : Nat) (A : Option Addr) (X : List Mc) : Prop := 0 < n → ∃ ge cur, A = some ⟨ge, 0, none⟩ ∧ Blk w ge 68 cur ∧ n * 14 ≤ cur.size ∧ B ≤ ge ∧ ∀ x ∈ X, x.s.ownBlock ≠ some ge
theorem EvSt.of_own {w w6 : World} {B n c : Nat} {A : Option Addr} {xs ys : List Value} {X : List Mc} (o : w.ownsRow B 68 14 (.slice A n c) n xs) (o6 : w6.ownsRow B 68 14 (.slice A n c) n ys) (h : ∀ x ∈ X, ∀ k, x.s.ownBlock = some k → k < B ∨ w6.heap.size ≤ k) : EvSt w B n A X := fun hn => by
  rcases o.2 with ⟨_, h0⟩ | ⟨g, cap, cur, hv, hb, hg, hnc, _, hcs, _⟩
  · omega
  · injection hv with e1 _ _
    refine ⟨g, cur, e1, hg, by rw [hcs]; exact Nat.mul_le_mul_right _ hnc, hb, fun x hx e => ?_⟩
    have hlt := (o6.lt g (by rw [e1]; rfl)).2
    rcases h x hx g e with h1 | h1 <;> omega
theorem size_put (cur : Array Value) (off : Nat) (cs : Array Value) (h : off + cs.size ≤ cur.size) : (cur.toList.take off ++ cs.toList ++ cur.toList.drop (off + cs.size)).toArray.size = cur.size := by
  simp only [List.size_toArray, List.length_append, List.length_take, List.length_drop, Array.length_toList]
  omega
theorem evA_one (e : Ev) : (evA e).all (·.oneCell') = true := by kernel_rfl
theorem run_call3 {P : Program} (ρ : Operand → Value) (o : Oper) (f : FuncId) (x y z : Operand) (ts : Array TypeId) (ho : o.op = .call { callee := .value (.func f), args := #[x, y, z], argTypes := ts }) (hf : ρ (.func f) = .func (.func f) #[] #[]) (hcf : ∀ (args : Array Value) (W : World), (callFunc f args).run P W = .ok (.enter f args) W) (w : World) : (execOp ρ o).run P w = .ok (.enter f #[ρ x, ρ y, ρ z]) w := by
  unfold execOp
  rw [ho]
  simp [go_sem, hf, hcf]
theorem run_call2 {P : Program} (ρ : Operand → Value) (o : Oper) (f : FuncId) (x y : Operand) (ts : Array TypeId) (ho : o.op = .call { callee := .value (.func f), args := #[x, y], argTypes := ts }) (hf : ρ (.func f) = .func (.func f) #[] #[]) (hcf : ∀ (args : Array Value) (W : World), (callFunc f args).run P W = .ok (.enter f args) W) (w : World) : (execOp ρ o).run P w = .ok (.enter f #[ρ x, ρ y]) w := by
  unfold execOp
  rw [ho]
  simp [go_sem, hf, hcf]
/-- A call of a known function with three arguments, as one step of a region that draws. -/
theorem step_call3 {P : Program} {ops : Array Oper} {o : Oper} {a : Act} {w : World} {K : Act → World → Prop} {Q : Exit → Act → World → Prop} {E : Prop} (hg : o.guard = none) (f : FuncId) (hcf : ∀ (args : Array Value) (W : World), (callFunc f args).run P W = .ok (.enter f args) W) (x y z : Operand) (ts : Array TypeId) (ho : o.op = .call { callee := .value (.func f), args := #[x, y, z], argTypes := ts }) (vx vy vz : Value) (hx : a.eval x = vx) (hy : a.eval y = vy) (hz : a.eval z = vz)
    {R : Ending → World → Prop} (c : Calls P f #[vx, vy, vz] w R) (h : ∀ e w', R e w' → ∃ u, e = .returned u ∧ K (a.put o.dst u) w') : if Region.wanted o (yielded ops a.tmps) = true then Oper.wp P o a w K Q else E :=
  step_call hg f _ (by rw [run_call3 a.eval o f x y z ts ho rfl hcf w, hx, hy, hz]) c h
theorem step_call2 {P : Program} {ops : Array Oper} {o : Oper} {a : Act} {w : World} {K : Act → World → Prop} {Q : Exit → Act → World → Prop} {E : Prop} (hg : o.guard = none) (f : FuncId) (hcf : ∀ (args : Array Value) (W : World), (callFunc f args).run P W = .ok (.enter f args) W) (x y : Operand) (ts : Array TypeId) (ho : o.op = .call { callee := .value (.func f), args := #[x, y], argTypes := ts }) (vx vy : Value) (hx : a.eval x = vx) (hy : a.eval y = vy)
    {R : Ending → World → Prop} (c : Calls P f #[vx, vy] w R) (h : ∀ e w', R e w' → ∃ u, e = .returned u ∧ K (a.put o.dst u) w') : if Region.wanted o (yielded ops a.tmps) = true then Oper.wp P o a w K Q else E :=
  step_call hg f _ (by rw [run_call2 a.eval o f x y ts ho rfl hcf w, hx, hy]) c h
theorem cf_cutA (args : Array Value) (W : World) : (callFunc 36 args).run Try.prog W = .ok (.enter 36 args) W := rfl
theorem cf_cutD (args : Array Value) (W : World) : (callFunc 46 args).run Try.prog W = .ok (.enter 46 args) W := rfl
end Go.Proofs.Ytnhjphmcdamoaaa
