/-
  Slices of any element, as lists of cells; append of whole slices. No program here.
-/
import Derived.Test.YtgannlbhhanflaaBase
import Derived.Maps.AppendAt
import Derived.OwnWalk
namespace Go.Proofs.Ytgannlbhhanflaa
set_option linter.unusedVariables false
set_option linter.unusedSimpArgs false
open Go.RowKit

/-- The slice (A, n) holds the cells xs, each element of so many; it lies below block B. -/
def Rd (w : World) (B size : Nat) (A : Option Addr) (n : Nat) (xs : List Value) : Prop :=
  xs.length = n * size ∧ (0 < n → ∃ b o, A = some ⟨b, o, none⟩ ∧ b < B ∧ ∀ j u, xs[j]? = some u → w.cell? ⟨b, o + j, none⟩ = some u)
theorem addr_add (b o j : Nat) : (⟨b, o, none⟩ : Addr).add j = ⟨b, o + j, none⟩ := by unfold Addr.add; split <;> simp_all
section
variable {w w' : World} {B B' size n : Nat} {A : Option Addr} {xs : List Value}
theorem Rd.nil : Rd w B size A 0 [] := ⟨by simp, fun h => absurd h (by omega)⟩
theorem Rd.below (h : Rd w B size A n xs) (hb : Below B w w') : Rd w' B size A n xs :=
  ⟨h.1, fun hn => by obtain ⟨b, o, e, hlt, hc⟩ := h.2 hn; exact ⟨b, o, e, hlt, fun j u hu => (hb.cell (p := ⟨b, _, none⟩) hlt).trans (hc j u hu)⟩⟩
theorem Rd.mono (h : Rd w B size A n xs) (hB : B ≤ B') : Rd w B' size A n xs :=
  ⟨h.1, fun hn => by obtain ⟨b, o, e, hlt, hc⟩ := h.2 hn; exact ⟨b, o, e, by omega, hc⟩⟩
theorem Rd.next (h : Rd w w.heap.size size A n xs) (hb : Below w.heap.size w w') : Rd w' w'.heap.size size A n xs := (h.below hb).mono hb.size
theorem Rd.of_own {base : Nat} {e : TypeId} {c : Nat} (h : w.ownsRow base e size (.slice A n c) n xs) : Rd w w.heap.size size A n xs := by
  refine ⟨h.1, fun hn => ?_⟩
  rcases h.2 with ⟨_, h0⟩ | ⟨g, cap, cur, hv, hg, hh, _⟩
  · omega
  · have hA : A = some ⟨g, 0, none⟩ := by injection hv
    subst hA
    refine ⟨g, 0, rfl, Blk.lt hh, fun j u hu => ?_⟩
    have := h.cells (g := g) rfl j u hu
    rwa [addr_add] at this
/-- The slice value of a row of the call's own. -/
theorem own_open {base : Nat} {e : TypeId} {v : Value} (h : w.ownsRow base e size v n xs) : ∃ A c, v = .slice A n c ∧ n ≤ c ∧ c ≤ maxLen ∧ Rd w w.heap.size size A n xs := by
  have h0 := h
  rcases h.2 with ⟨rfl, rfl⟩ | ⟨g, cap, cur, rfl, hg, hh, hnc, hcm, _, _⟩
  · exact ⟨none, 0, rfl, Nat.le_refl _, by decide, Rd.of_own h0⟩
  · exact ⟨_, cap, rfl, hnc, hcm, Rd.of_own h0⟩
theorem vrows_rd {L : List Vec} (h : VRows w B A L) : Rd w B 6 A L.length (vcells L) := by
  refine ⟨vcells_length L, fun hn => ?_⟩
  obtain ⟨b, o, e, hlt, hc⟩ := h (List.ne_nil_of_length_pos hn)
  refine ⟨b, o, e, hlt, fun j u hu => ?_⟩
  have hj : j < L.length * 6 := by have := (List.getElem?_eq_some_iff.1 hu).1; rwa [vcells_length] at this
  obtain ⟨v, hv⟩ : ∃ v, L[j / 6]? = some v := ⟨L[j / 6]'(by omega), List.getElem?_eq_getElem (by omega)⟩
  have h1 := hc (j / 6) v hv (j % 6) (by omega)
  have h2 := vcells_get L (j / 6) v hv (j % 6) (by omega)
  rw [show j / 6 * 6 + j % 6 = j from by omega] at h2
  rw [show o + j / 6 * 6 + j % 6 = o + j from by omega] at h1
  rw [hu] at h2
  rw [h1, h2]
theorem rd_vrows {L : List Vec} (h : Rd w B 6 A L.length (vcells L)) : VRows w B A L := fun hL => by
  obtain ⟨b, o, e, hlt, hc⟩ := h.2 (List.length_pos_iff.2 hL)
  refine ⟨b, o, e, hlt, fun i v hi j hj => ?_⟩
  rw [Nat.add_assoc]
  exact hc _ _ (vcells_get L i v hi j hj)
/-- The cells of bytes. -/
def bcells (l : List Int) : List Value := l.map (.int .u8)
theorem bcells_length (l : List Int) : (bcells l).length = l.length := List.length_map _
theorem brows_rd {l : List Int} (h : BRows w B A l) : Rd w B 1 A l.length (bcells l) := by
  refine ⟨by rw [bcells_length, Nat.mul_one], fun hn => ?_⟩
  obtain ⟨b, o, e, hlt, hc⟩ := h (List.ne_nil_of_length_pos hn)
  refine ⟨b, o, e, hlt, fun j u hu => ?_⟩
  unfold bcells at hu
  rw [List.getElem?_map] at hu
  obtain ⟨x, hx, rfl⟩ := Option.map_eq_some_iff.1 hu
  exact hc j x hx
theorem rd_brows {l : List Int} (h : Rd w B 1 A l.length (bcells l)) : BRows w B A l := fun hL => by
  obtain ⟨b, o, e, hlt, hc⟩ := h.2 (List.length_pos_iff.2 hL)
  exact ⟨b, o, e, hlt, fun i x hi => hc i _ (by unfold bcells; rw [List.getElem?_map, hi]; rfl)⟩
end

section
variable {P : Program} (w : World)
/-- append of a whole slice, nil or not, onto a row of the call's own. -/
theorem run_append_rd (base : Nat) (t ty e : TypeId) (i : TypeInfo) (z : Value) (size bytes : Nat) (ht : P.underlying t = some (.slice e)) (hi : P.info? e = some i) (hz : i.zero = some z)
    (hsize : i.size = size) (hby : i.bytes = bytes) (hzs : z.cells.size = size) (hsz : 0 < size)
    (v : Value) (n : Nat) (xs : List Value) (hown : w.ownsRow base e size v n xs) (B : Nat) (A : Option Addr) (m c : Nat) (news : List Value) (hr : Rd w B size A m news) (h1 : ∀ u ∈ news, u.oneCell' = true)
    (h63 : n + m ≤ maxLen) (hbytes : (n + m) * bytes ≤ 140737488355328) (hbase : base ≤ w.heap.size) :
    ∃ v' w', (Builtin.append_ #[t, t] ty #[v, .slice A m c]).run P w = .ok v' w' ∧ w'.ownsRow base e size v' (n + m) (xs ++ news) ∧ Below base w w' := by
  have hgr : ∀ w', w.grownBy w' v.ownBlock → Below base w w' := fun w' hg => (Below.refl _ _).grown hg hbase fun k hk => (hown.lt k hk).1
  by_cases hm : m = 0
  · subst hm
    obtain rfl : news = [] := List.eq_nil_of_length_eq_zero (by simpa using hr.1)
    rcases A with _ | ad
    · refine ⟨v, w, ?_, by simpa using hown, Below.refl _ _⟩
      rcases hown.2 with ⟨rfl, rfl⟩ | ⟨g, cap, cur, rfl, _, _, hnc, _⟩
      · simp [Builtin.append_, run_underlying ht, sizeOf, typeInfo, hi, Builtin.lenOf, Builtin.firstCells]
      · simp [Builtin.append_, run_underlying ht, sizeOf, typeInfo, hi, Builtin.lenOf, Builtin.firstCells, hnc, storeCells]
    · obtain ⟨v', w', hrun, h2, h3, _⟩ := run_append_own (P := P) w base t ty e i z size bytes ht hi hz hsize hby hzs hsz v n xs hown ad 0 c [] (by simp) (fun j u hu => by simp at hu) (fun u hu => by cases hu) h63 hbytes hbase
      exact ⟨v', w', hrun, h2, hgr w' h3⟩
  · obtain ⟨b, o, rfl, hlt, hc⟩ := hr.2 (by omega)
    obtain ⟨v', w', hrun, h2, h3, _⟩ := run_append_own (P := P) w base t ty e i z size bytes ht hi hz hsize hby hzs hsz v n xs hown ⟨b, o, none⟩ m c news hr.1 (fun j u hu => by rw [addr_add]; exact hc j u hu) h1 h63 hbytes hbase
    exact ⟨v', w', hrun, h2, hgr w' h3⟩
theorem wpList_append_rd {ops : Array Oper} {rest : List Oper} {o : Oper} {a : Act} {Q : Exit → Act → World → Prop} (hgd : o.guard = none) (s x : Operand) (t : TypeId)
    (ho : o.op = .call { callee := .builtin .append, args := #[s, x], argTypes := #[t, t] })
    (base : Nat) (e : TypeId) (i : TypeInfo) (z : Value) (size bytes : Nat) (ht : P.underlying t = some (.slice e)) (hi : P.info? e = some i) (hz : i.zero = some z)
    (hsize : i.size = size) (hby : i.bytes = bytes) (hzs : z.cells.size = size) (hsz : 0 < size)
    (v : Value) (n : Nat) (xs : List Value) (hs : a.eval s = v) (hown : w.ownsRow base e size v n xs)
    (B : Nat) (A : Option Addr) (m c : Nat) (news : List Value) (hx : a.eval x = .slice A m c) (hr : Rd w B size A m news) (h1 : ∀ u ∈ news, u.oneCell' = true)
    (h63 : n + m ≤ maxLen) (hbytes : (n + m) * bytes ≤ 140737488355328) (hbase : base ≤ w.heap.size)
    (h : ∀ v' w', w'.ownsRow base e size v' (n + m) (xs ++ news) → Below base w w' → wpList P ops Q rest (a.put o.dst v') w') : wpList P ops Q (o :: rest) a w := by
  obtain ⟨v', w', hrun, h2, h3⟩ := run_append_rd (P := P) w base t o.type e i z size bytes ht hi hz hsize hby hzs hsz v n xs hown B A m c news hr h1 h63 hbytes hbase
  refine wpList_plain hgd fun _ hK => ?_
  unfold Oper.wp execOp
  simp only [ho, resolve, invoke, builtin, Sem.run_bind, Sem.run_pure, Result.andThen_ok, List.map_toArray, List.map_cons, List.map_nil, hs, hx, hrun]
  exact hK _ _ (h v' w' h2 h3)
end

/-- A slice literal of no parts. -/
def bs0 (t : TypeId) : Sem Next := do pure (.value (← Instr.buildSlice t 0 #[]))
section
variable (ρ : Operand → Value) (dst : Option Tmp) (ty t : TypeId) (pos : String) (after : Array Edge) (guard : Option (Nat × Bool))
theorem execOp_bs0 : execOp ρ { dst, op := .buildSlice t 0 #[], type := ty, pos, after, guard } = bs0 t := by simp [execOp, bs0]
end

/-- Block g is none of these. -/
@[reducible] def Nes (g : Nat) : List (Nat × TypeId × Array Value) → Prop
  | [] => True
  | (g', _, _) :: r => g' ≠ g ∧ Nes g r
theorem Nes.out {g : Nat} : ∀ {bs : List (Nat × TypeId × Array Value)}, Nes g bs → ∀ g' t cs, (g', t, cs) ∈ bs → g' ≠ g
  | (_, _, _) :: _, h, _, _, _, hm => by
    rcases List.mem_cons.1 hm with e | hm
    · cases e; exact h.1
    · exact Nes.out h.2 _ _ _ hm
/-- A store into a block that is not among those that are followed. -/
theorem Trk.far {w0 w : World} {bs : List (Nat × TypeId × Array Value)} (h : Trk w0 w bs) {p : Addr} (hB : w0.heap.size ≤ p.block) (hp : Nes p.block bs) (u : Value) : Trk w0 (w.setCell p u) bs :=
  ⟨h.below.setCell hB u, fun g t cs hm => (h.blk _ _ _ hm).far (hp.out g t cs hm) u⟩
/-- A store into the first block that is followed. -/
theorem Trk.set_ {w0 w : World} {g : Nat} {t : TypeId} {cs : Array Value} {bs : List (Nat × TypeId × Array Value)} (h : Trk w0 w ((g, t, cs) :: bs)) (hB : w0.heap.size ≤ g) (hp : Nes g bs) (i : Nat) (u : Value) :
    Trk w0 (w.setCell ⟨g, i, none⟩ u) ((g, t, cs.setIfInBounds i u) :: bs) :=
  ⟨h.below.setCell (p := ⟨g, i, none⟩) hB u, fun g' t' cs' hm => by
    rcases List.mem_cons.1 hm with e | hm
    · cases e; exact (h.blk _ _ _ List.mem_cons_self).set_ i u
    · exact (h.blk _ _ _ (List.mem_cons_of_mem _ hm)).far (p := ⟨g, i, none⟩) (hp.out _ _ _ hm) u⟩
/-- All of these blocks lie below B. -/
@[reducible] def Ltn (B : Nat) : List (Nat × TypeId × Array Value) → Prop
  | [] => True
  | (g, _, _) :: r => g < B ∧ Ltn B r
theorem Ltn.out {B : Nat} : ∀ {bs : List (Nat × TypeId × Array Value)}, Ltn B bs → ∀ g t cs, (g, t, cs) ∈ bs → g < B
  | (_, _, _) :: _, h, _, _, _, hm => by
    rcases List.mem_cons.1 hm with e | hm
    · cases e; exact h.1
    · exact Ltn.out h.2 _ _ _ hm
/-- What leaves all below B alone. -/
theorem Trk.callB {w0 w w1 : World} {bs : List (Nat × TypeId × Array Value)} {B : Nat} (h : Trk w0 w bs) (hb : Below B w w1) (hB : w0.heap.size ≤ B) (hl : Ltn B bs) : Trk w0 w1 bs :=
  ⟨h.below.trans (hb.mono hB), fun g t cs hm => (h.blk _ _ _ hm).below hb (hl.out g t cs hm)⟩
theorem own_mono {w : World} {base base' : Nat} {e : TypeId} {size : Nat} {v : Value} {n : Nat} {xs : List Value} (h : w.ownsRow base' e size v n xs) (hb : base ≤ base') : w.ownsRow base e size v n xs := by
  obtain ⟨h1, h2⟩ := h
  refine ⟨h1, ?_⟩
  rcases h2 with h2 | ⟨g, cap, cur, hv, hg, r⟩
  · exact Or.inl h2
  · exact Or.inr ⟨g, cap, cur, hv, by omega, r⟩
theorem own_far {w : World} {base : Nat} {e : TypeId} {size : Nat} {v : Value} {n : Nat} {xs : List Value} (h : w.ownsRow base e size v n xs) {p : Addr} (hp : p.block < base) (u : Value) : (w.setCell p u).ownsRow base e size v n xs := by
  obtain ⟨h1, h2⟩ := h
  refine ⟨h1, ?_⟩
  rcases h2 with h2 | ⟨g, cap, cur, hv, hg, hh, r⟩
  · exact Or.inl h2
  · exact Or.inr ⟨g, cap, cur, hv, hg, (Below.heap_setCell w p u g (by omega)).trans hh, r⟩
theorem Trk.undrewN {w0 w : World} {bs : List (Nat × TypeId × Array Value)} {n : Nat} (h : Trk w0 (w.drewN n) bs) : Trk w0 w bs :=
  ⟨⟨h.below.os, h.below.tape, h.below.output, h.below.size, h.below.block⟩, h.blk⟩
theorem Trk.perm {w0 w : World} {bs cs : List (Nat × TypeId × Array Value)} (h : Trk w0 w bs) (hp : ∀ x ∈ cs, x ∈ bs) : Trk w0 w cs := ⟨h.below, fun _ _ _ hm => h.blk _ _ _ (hp _ hm)⟩
end Go.Proofs.Ytgannlbhhanflaa
