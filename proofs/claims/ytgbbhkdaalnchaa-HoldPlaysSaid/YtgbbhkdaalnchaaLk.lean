/-
  Steps of a region in which a call answers rights and an error, and these are stored into a new variable; the requests turn.
-/
import Derived.Test.YtgbbhkdaalnchaaLi
import Derived.Test.YtgbbhkdaalnchaaGR
namespace Go.Proofs.Ytgbbhkdaalnchaa
set_option linter.unusedVariables false
set_option linter.unusedSimpArgs false
open Go.RowKit Go Go.BigFrame
set_option maxRecDepth 100000

@[go_sem] theorem grA_0 (x : Grt) : (grA x)[0]? = some (.int .i64 x.o) := rfl
@[go_sem] theorem grA_1 (x : Grt) : (grA x)[1]? = some (.int .u64 x.r) := rfl
@[go_sem] theorem grA_2 (x : Grt) : (grA x)[2]? = some (.int .u64 x.n) := rfl
@[go_sem] theorem grA_3 (x : Grt) : (grA x)[3]? = some (.int .i64 x.a) := rfl
@[go_sem] theorem grA_4 (x : Grt) : (grA x)[4]? = some (.int .u64 x.b) := rfl
def IsRt (w : World) (g : Nat) : Prop := ∃ f, Blk w g 110 (rtA f)
/-- Later worlds of a region that begins in W: what was stands; rights that the region made are rights. -/
def Srt (W w w' : World) : Prop := ∀ g, W.heap.size ≤ g → IsRt w g → IsRt w' g
def isTup (u : Value) : Prop := ∃ (f : Nat → Int) (n : Int), u = .tuple #[.agg (rtA f), .int .i64 n]
def isRt (u : Value) : Prop := ∃ f : Nat → Int, u = .agg (rtA f)
def isInt (u : Value) : Prop := ∃ n : Int, u = .int .i64 n
def peT {S : World → World → Prop} (m : Value → Prop) (h : ∃ u, m u) : Pe S := ⟨m, fun _ _ => True, h, fun _ _ _ _ _ => trivial⟩
def peTup (W : World) : Pe (Srt W) := peT isTup ⟨_, z0, 0, rfl⟩
def peRt (W : World) : Pe (Srt W) := peT isRt ⟨_, z0, rfl⟩
def peInt (W : World) : Pe (Srt W) := peT isInt ⟨_, 0, rfl⟩
def peAny (W : World) : Pe (Srt W) := peT (fun u => u = undef) ⟨undef, rfl⟩
def peNew (W : World) : Pe (Srt W) := ⟨fun u => ∃ g, u = .pointer (some ⟨g, 0, none⟩), fun u w => ∃ g, u = .pointer (some ⟨g, 0, none⟩) ∧ W.heap.size ≤ g ∧ IsRt w g, ⟨_, 0, rfl⟩, fun u w w' ⟨g, e, h1, h2⟩ hs => ⟨g, e, h1, hs g h1 h2⟩⟩
def rtE (W : World) : List (Pe (Srt W)) := [peTup W, peTup W, peRt W, peInt W, peNew W, peAny W, peInt W]
theorem Srt.of_below {W w w' : World} (hb : Below w.heap.size w w') : Srt W w w' := fun g _ ⟨f, hf⟩ => ⟨f, hf.call hb⟩
theorem Srt.refl {W w : World} : Srt W w w := fun _ _ h => h
section
variable {W : World} {ops : Array Oper} {n0 : Nat} {Q : Act → Known → Prop} {i : Nat} {o : Oper} {rest : List Oper} {a : Act} {F : Known}
abbrev Lr (W : World) (ops : Array Oper) (n0 : Nat) (Q : Act → Known → Prop) (i : Nat) (l : List Oper) (a : Act) (F : Known) : Prop :=
  wpLs Try.prog .any ops (fun w' => ∃ x : Later W, w' = x.w) (Srt W) (peM (rtE W) n0) (peR (rtE W) n0) Q i l a F
theorem lr_step (hw : Region.wanted o (yielded ops a.tmps) = true) (p : Pe (Srt W)) (hE : (if i < n0 then none else (rtE W)[i - n0]?) = some p)
    (hob : ∀ x : Later W, (∀ k u, F k u → Needs .any o k → peR (rtE W) n0 k u x.w) → LsUpon Try.prog (fun w' => ∃ x : Later W, w' = x.w) (Srt W) p.m p.r x.w ((execOp a.eval o).run Try.prog x.w))
    (h : ∀ u, p.m u → Lr W ops n0 Q (i + 1) rest (a.put o.dst u) (F.ins i u)) : Lr W ops n0 Q i (o :: rest) a F := by
  unfold Lr wpLs
  rw [if_pos hw]
  have hm : ∀ u, peM (rtE W) n0 i u ↔ p.m u := fun u => ⟨fun hu => hu p hE, fun hu p' hp' => by rw [hE] at hp'; cases hp'; exact hu⟩
  have hr : ∀ u w, peR (rtE W) n0 i u w ↔ p.r u w := fun u w => ⟨fun hu => hu p hE, fun hu p' hp' => by rw [hE] at hp'; cases hp'; exact hu⟩
  refine ⟨fun w ⟨x, hx⟩ hF => ?_, fun u hu => h u ((hm u).1 hu)⟩
  subst hx
  have h1 := hob x hF
  generalize (execOp a.eval o).run Try.prog x.w = r at h1 ⊢
  cases r with
  | ok n w' =>
    cases n <;> simp only [LsUpon] at h1 ⊢
    case value u => exact ⟨(hm u).2 h1.1, h1.2.1, h1.2.2.1, (hr u w').2 h1.2.2.2⟩
    case skip => exact ⟨(hm _).2 h1.1, h1.2.1, h1.2.2.1, (hr _ w').2 h1.2.2.2⟩
    case enter f args => exact h1.mono fun e w'' ⟨u, e1, e2, e3, e4, e5⟩ => ⟨u, e1, (hm u).2 e2, e3, e4, (hr u w'').2 e5⟩
  | halt x w' => simp only [LsUpon] at h1
/-- A value that depends on no world. -/
theorem lr_pure (hw : Region.wanted o (yielded ops a.tmps) = true) (m : Value → Prop) (hex : ∃ u, m u) (hE : (if i < n0 then none else (rtE W)[i - n0]?) = some (peT m hex)) (v : Value) (hv : m v) (hrun : ∀ w, (execOp a.eval o).run Try.prog w = .ok (.value v) w)
    (h : ∀ u, m u → Lr W ops n0 Q (i + 1) rest (a.put o.dst u) (F.ins i u)) : Lr W ops n0 Q i (o :: rest) a F :=
  lr_step hw _ hE (fun x _ => by rw [hrun]; exact ⟨hv, ⟨x, rfl⟩, Srt.refl, trivial⟩) h
/-- The call. -/
theorem lr_call (hw : Region.wanted o (yielded ops a.tmps) = true) (hE : (if i < n0 then none else (rtE W)[i - n0]?) = some (peTup W)) (f : FuncId) (args : Array Value) (he : ∀ w, (execOp a.eval o).run Try.prog w = .ok (.enter f args) w)
    (c : ∀ w, Calls Try.prog f args w (SomeRt w)) (h : ∀ u, isTup u → Lr W ops n0 Q (i + 1) rest (a.put o.dst u) (F.ins i u)) : Lr W ops n0 Q i (o :: rest) a F :=
  lr_step hw _ hE (fun x _ => by
    rw [he]
    refine (c x.w).mono ?_
    rintro e w' ⟨f, n, rfl, hb⟩
    exact ⟨_, rfl, ⟨f, n, rfl⟩, ⟨⟨w', x.below.trans (hb.mono x.below.size)⟩, rfl⟩, Srt.of_below hb, trivial⟩) h
theorem lr_new (hw : Region.wanted o (yielded ops a.tmps) = true) (hE : (if i < n0 then none else (rtE W)[i - n0]?) = some (peNew W)) (he : ∀ w : World, (execOp a.eval o).run Try.prog w = .ok (.value (.pointer (some ⟨w.heap.size, 0, none⟩))) (w.alloc (.cells (rtA z0) 110)))
    (h : ∀ u, (∃ g, u = .pointer (some ⟨g, 0, none⟩)) → Lr W ops n0 Q (i + 1) rest (a.put o.dst u) (F.ins i u)) : Lr W ops n0 Q i (o :: rest) a F :=
  lr_step hw _ hE (fun x _ => by
    rw [he]
    have hb : Below x.w.heap.size x.w (x.w.alloc (.cells (rtA z0) 110)) := (Below.refl _ _).alloc (Nat.le_refl _) _
    exact ⟨⟨_, rfl⟩, ⟨⟨_, x.below.trans (hb.mono x.below.size)⟩, rfl⟩, Srt.of_below hb, ⟨_, rfl, x.below.size, z0, Blk.new _ _ _⟩⟩) h
theorem lr_store (hw : Region.wanted o (yielded ops a.tmps) = true) (hE : (if i < n0 then none else (rtE W)[i - n0]?) = some (peAny W)) (k : Nat) (z : Value) (hk : needB o k = true) (hF : F k z) (hEk : (if k < n0 then none else (rtE W)[k - n0]?) = some (peNew W)) (f : Nat → Int)
    (he : ∀ w : World, (execOp a.eval o).run Try.prog w = (stR 110 z (.agg (rtA f))).run Try.prog w)
    (h : Lr W ops n0 Q (i + 1) rest (a.put o.dst undef) (F.ins i undef)) : Lr W ops n0 Q i (o :: rest) a F :=
  lr_step hw _ hE (fun x hR => by
    obtain ⟨g, rfl, hg, f0, hb⟩ := hR k z hF (need_of hk) (peNew W) hEk
    rw [he]
    obtain ⟨w', hrun, hb', hfr, hkt⟩ := stR_whole (P := Try.prog) (base := W.heap.size) hb hg (size_rt f) (by rw [rtA_size, rtA_size]) (rtA_cell f)
    rw [hrun]
    refine ⟨rfl, ⟨⟨w', x.below.trans hkt.below⟩, rfl⟩, fun g' hg' ⟨f', hf'⟩ => ?_, trivial⟩
    by_cases e : g' = g
    · subst e; exact ⟨f, hb'⟩
    · exact ⟨f', hfr.blk hf' e (by simp)⟩) (fun u hu => by have hu : u = undef := hu; subst hu; exact h)
theorem lr_end {k : Nat} {z : Value} (hF : F k z) (hEk : (if k < n0 then none else (rtE W)[k - n0]?) = some (peNew W)) {w' : World} (h : ∀ k u, F k u → peR (rtE W) n0 k u w') : ∃ g, z = .pointer (some ⟨g, 0, none⟩) ∧ W.heap.size ≤ g ∧ IsRt w' g := h k z hF (peNew W) hEk
end
section
variable {w w' : World} {base g : Nat} {inn : Nat → Bool} {kn : Vec} {vn vg : Value} {gt : Nat} {vl : Value} {vr : Nat → Value} {ns : List Nd} {gs : List Grt} {t : List Tn} {rs : Nat → List Int} {cnt : Nat}
def rset (f : Nat → List Int) (k : Nat) (x : List Int) : Nat → List Int := fun i => if i = k then x else f i
/-- A request is added. -/
theorem Led.req {k : Nat} {v' : Value} {x : Int} {W : World} (h : Led w base g inn kn vn vg gt vl vr ns gs t rs) (hk : k < 6) (hB : Below w.heap.size w W) (hr : RowU w' base v' (rs k ++ [x])) (K : Kt base [28] W w') (hg : W.grownBy w' (vr k).ownBlock) (hf : v'.ownBlock = (vr k).ownBlock ∨ ∀ b, v'.ownBlock = some b → W.heap.size ≤ b) :
    Led (w'.setCell ⟨g, 21 + k, none⟩ v') base g inn kn vn vg gt vl (vset vr k v') ns gs t (rset rs k (rs k ++ [x])) := by
  have hW := h.call hB
  have hb := K.blk _ _ _ hW.blk (by decide)
  have S : Kt base [46] w' (w'.setCell ⟨g, 21 + k, none⟩ v') := Kt.setCell hb (by simp) h.ge _ _
  have b9 := hb.set_ (21 + k) v'
  rw [ledA_set_r _ _ _ _ _ _ k hk] at b9
  have keep : ∀ j, j < 6 → j ≠ k → RowU w' base (vr j) (rs j) := fun j hj hne => World.ownsRow.kept (hW.rr j hj) hg (hW.apart j k hj hk hne)
  have apt : ∀ j, j < 6 → j ≠ k → (v'.ownBlock = none ∨ v'.ownBlock ≠ (vr j).ownBlock) ∧ ((vr j).ownBlock = none ∨ (vr j).ownBlock ≠ v'.ownBlock) := fun j hj hne => by
    rcases hf with hf | hf
    · rw [hf]; exact ⟨h.apart k j hk hj (Ne.symm hne), h.apart j k hj hk hne⟩
    · cases hv : v'.ownBlock with
      | none => exact ⟨.inl rfl, by cases (vr j).ownBlock <;> simp⟩
      | some b =>
        have hb := hf b hv
        cases hj2 : (vr j).ownBlock with
        | none => exact ⟨.inr (by simp), .inl rfl⟩
        | some c =>
          have := ((hW.rr j hj).ge c hj2).2
          exact ⟨.inr (by simp; omega), .inr (by simp; omega)⟩
  refine ⟨b9, h.ge, ⟨S.blk _ _ _ (K.blk _ _ _ hW.tre.blk (by decide)) (by decide), S.row (K.row hW.tre.row (by decide)) (by decide), hW.tre.ge⟩, S.row (K.row hW.rn (by decide)) (by decide), S.row (K.row hW.rg (by decide)) (by decide), fun j hj => ?_, fun i j hi hj hij => ?_⟩
  · simp only [vset, rset]
    by_cases e : j = k
    · rw [if_pos e, if_pos e]; exact S.row hr (by decide)
    · rw [if_neg e, if_neg e]; exact S.row (keep j hj e) (by decide)
  · simp only [vset]
    by_cases e1 : i = k
    · rw [if_pos e1, if_neg (by omega)]
      exact (apt j hj (by omega)).1
    · rw [if_neg e1]
      by_cases e2 : j = k
      · rw [if_pos e2]; exact (apt i hi (by omega)).2
      · rw [if_neg e2]; exact h.apart i j hi hj hij
theorem LOk.req {k : Nat} {x : Int} {gs' : List Grt} (h : LOk ns gs t rs cnt) (hg : gs'.length ≤ gs.length + 1) : LOk ns gs' t (rset rs k (rs k ++ [x])) (cnt + 1) := by
  refine ⟨h.tok, h.len, h.l32, h.ids, by have := h.gl; omega, fun j hj => ?_, h.rng⟩
  simp only [rset]
  split
  · rename_i e; subst e
    have := h.rl j hj; simp; omega
  · have := h.rl j hj; omega
end
end Go.Proofs.Ytgbbhkdaalnchaa
