/-
  The walk of the document's package leatref11: Copy.
-/
import Derived.Test.YtgbbhkdaalnchaaLg
namespace Go.Proofs.Ytgbbhkdaalnchaa
set_option linter.unusedVariables false
set_option linter.unusedSimpArgs false
open Go.RowKit Go
set_option maxRecDepth 100000

/-- The state's twenty cells. -/
def stA (inn : Nat → Bool) (kn : Vec) (vn vg : Value) : Array Value :=
  #[.bool (inn 0), .bool (inn 1), .bool (inn 2), .bool (inn 3), .bool (inn 4), .bool (inn 5), .bool (inn 6), .bool (inn 7), .bool (inn 8), .bool (inn 9), .bool (inn 10), .bool (inn 11),
    .int .u64 kn.v0, .int .u64 kn.v1, .int .u64 kn.v2, .int .u64 kn.v3, .int .u64 kn.v4, .int .u64 kn.v5, vn, vg]
theorem size_st (inn : Nat → Bool) (kn : Vec) (vn vg : Value) : (Try.prog.info? 41).map (·.size) = some (stA inn kn vn vg).size := by kernel_rfl
theorem ledA_st (inn : Nat → Bool) (kn : Vec) (vn vg : Value) (gt : Nat) (vr : Nat → Value) (j : Nat) (v : Value) (h : (stA inn kn vn vg)[j]? = some v) : (ledA inn kn vn vg gt vr)[0 + j]? = some v := by
  have hj : j < 20 := (Array.getElem?_eq_some_iff.1 h).1
  rw [Nat.zero_add, ← h]
  match j, hj with
  | 0, _ => rfl | 1, _ => rfl | 2, _ => rfl | 3, _ => rfl | 4, _ => rfl | 5, _ => rfl | 6, _ => rfl | 7, _ => rfl | 8, _ => rfl | 9, _ => rfl
  | 10, _ => rfl | 11, _ => rfl | 12, _ => rfl | 13, _ => rfl | 14, _ => rfl | 15, _ => rfl | 16, _ => rfl | 17, _ => rfl | 18, _ => rfl | 19, _ => rfl
def nilR : Nat → Value := fun _ => .slice none 0 0
def bLed (x y : Value) : Sem Next := do pure (.value (← Instr.build 46 #[(0, x), (1, y)]))
section
variable (ρ : Operand → Value) (dst : Option Tmp) (x y z u : Operand) (ty : TypeId) (pos : String) (after : Array Edge) (guard : Option (Nat × Bool))
@[go_sem ↓ high] theorem execOp_ldSt : execOp ρ { dst, op := .load 41 x, type := ty, pos, after, guard } = ldR 41 (ρ x) := by simp [execOp, ldR]
@[go_sem ↓ high] theorem execOp_bLed : execOp ρ { dst, op := .build 46 #[(0, x), (1, y)], type := ty, pos, after, guard } = bLed (ρ x) (ρ y) := by simp [execOp, bLed]
@[go_sem ↓ high] theorem execOp_ldRt : execOp ρ { dst, op := .load 110 x, type := ty, pos, after, guard } = ldR 110 (ρ x) := by simp [execOp, ldR]
@[go_sem ↓ high] theorem execOp_stRt : execOp ρ { dst, op := .store 110 x y, type := ty, pos, after, guard } = stR 110 (ρ x) (ρ y) := by simp [execOp, stR]
end
@[go_sem] theorem run_bLed (inn : Nat → Bool) (kn : Vec) (vn vg : Value) (gt : Nat) (w : World) : (bLed (.agg (stA inn kn vn vg)) (.pointer (some ⟨gt, 0, none⟩))).run Try.prog w = .ok (.value (.agg (ledA inn kn vn vg gt nilR))) w := by kernel_rfl
/-- Where the rows are copied. -/
def CopyPost (inn : Nat → Bool) (kn : Vec) (ns : List Nd) (gs : List Grt) (t : List Tn) (rs : Nat → List Int) (w : World) (e : Ending) (w' : World) : Prop :=
  ∃ g vn vg gt vl vr, e = .returned (.pointer (some ⟨g, 0, none⟩)) ∧ Led w' w.heap.size g inn kn vn vg gt vl vr ns gs t rs ∧ Below w.heap.size w w'
section
variable {w w' : World} {base g : Nat} {inn : Nat → Bool} {kn : Vec} {vn vg : Value} {gt : Nat} {vl : Value} {vr : Nat → Value} {ns : List Nd} {gs : List Grt} {t : List Tn} {rs : Nat → List Int}
theorem row_made {α : Type} {c : α → Array Value} {sz : Nat} (w : World) (e : TypeId) (hb : base ≤ w.heap.size) : Row (w.alloc (.cells #[] e)) base e sz c (.slice (some ⟨w.heap.size, 0, none⟩) 0 0) [] :=
  World.ownsRow_made w #[] 0 hb (by decide) (by simp)
/-- The requests' rows while they are copied: the first k are there. -/
structure CopyR (w : World) (base k : Nat) (vr : Nat → Value) (rs : Nat → List Int) : Prop where
  row : ∀ j, j < 6 → RowU w base (vr j) (if j < k then rs j else [])
  nil : ∀ j, k ≤ j → vr j = .slice none 0 0
  apart : ∀ i j, i < 6 → j < 6 → i ≠ j → (vr i).ownBlock = none ∨ (vr i).ownBlock ≠ (vr j).ownBlock
theorem CopyR.start {rs : Nat → List Int} : CopyR w base 0 nilR rs := ⟨fun j _ => by rw [if_neg (by omega)]; exact Row.nil, fun _ _ => rfl, fun _ _ _ _ _ => .inl rfl⟩
theorem CopyR.kt {k : Nat} (h : CopyR w base k vr rs) (K : Kt base [46] w w') : CopyR w' base k vr rs := ⟨fun j hj => K.row (h.row j hj) (by decide), h.nil, h.apart⟩
theorem CopyR.next {k : Nat} {v' : Value} (h : CopyR w base k vr rs) (hk : k < 6) (hr : RowU w' base v' (rs k)) (hg : w.drew.grownBy w' (Value.slice none 0 0).ownBlock) (hf : v'.ownBlock = (Value.slice none 0 0).ownBlock ∨ ∀ b, v'.ownBlock = some b → w.drew.heap.size ≤ b) : CopyR w' base (k + 1) (vset vr k v') rs := by
  have keep : ∀ j, j < 6 → RowU w' base (vr j) (if j < k then rs j else []) := fun j hj => World.ownsRow.kept ((h.row j hj).call (Below.refl _ _).drew) hg (by cases (vr j).ownBlock <;> simp [Value.ownBlock])
  have apt : ∀ j, j < 6 → (v'.ownBlock = none ∨ v'.ownBlock ≠ (vr j).ownBlock) ∧ ((vr j).ownBlock = none ∨ (vr j).ownBlock ≠ v'.ownBlock) := fun j hj => by
    rcases hf with hf | hf
    · exact ⟨.inl hf, by rw [hf]; cases (vr j).ownBlock <;> simp [Value.ownBlock]⟩
    · cases hv : v'.ownBlock with
      | none => exact ⟨.inl rfl, by cases (vr j).ownBlock <;> simp⟩
      | some b =>
        have hb := hf b hv
        cases hj2 : (vr j).ownBlock with
        | none => exact ⟨.inr (by simp), .inl rfl⟩
        | some c =>
          have := ((h.row j hj).ge c hj2).2
          have hs : w.drew.heap.size = w.heap.size := rfl
          exact ⟨.inr (by simp; omega), .inr (by simp; omega)⟩
  refine ⟨fun j hj => ?_, fun j hj => ?_, fun i j hi hj hij => ?_⟩
  · by_cases e : j = k
    · subst e
      rw [if_pos (by omega)]
      simpa [vset] using hr
    · have := keep j hj
      simp only [vset, if_neg e]
      by_cases hlt : j < k
      · rw [if_pos hlt] at this; rw [if_pos (by omega)]; exact this
      · rw [if_neg hlt] at this; rw [if_neg (by omega)]; exact this
  · simp only [vset]
    rw [if_neg (by omega)]
    exact h.nil j (by omega)
  · simp only [vset]
    by_cases e1 : i = k
    · rw [if_pos e1, if_neg (by omega)]
      exact (apt j hj).1
    · rw [if_neg e1]
      by_cases e2 : j = k
      · rw [if_pos e2]; exact (apt i hi).2
      · rw [if_neg e2]; exact h.apart i j hi hj hij
set_option maxHeartbeats 2000000 in
theorem lcopy (h : Led w base g inn kn vn vg gt vl vr ns gs t rs) (hn : ns.length ≤ 1000) (hg : gs.length ≤ 1000) (ht : t.length ≤ 1000) (hr : ∀ k, k < 6 → (rs k).length ≤ 1000) :
    Calls Try.prog 62 #[.pointer (some ⟨g, 0, none⟩)] w (CopyPost inn kn ns gs t rs w) := by
  obtain ⟨An, cn, rfl, hcn, hmn⟩ := h.rn.sl
  obtain ⟨Ag, cg, rfl, hcg, hmg⟩ := h.rg.sl
  obtain ⟨At, ct, rfl, hct, hmt⟩ := h.tre.row.sl
  have HH := Lib.hid h
  have HL := Lib.hid (And.intro hn (And.intro hg (And.intro ht hr)))
  have hld := run_ldR (P := Try.prog) (h.blk.rngAt (o := 0) (n := 0) (stA inn kn (.slice An ns.length cn) (.slice Ag gs.length cg)) (ledA_st _ _ _ _ _ _)) Try.underlying41 rfl (size_st _ _ _ _)
  clear h hn hg ht hr
  go_enter Try.func62, Try.ntmps62
  go_upto_region 2 with fail
  have hb1 : Below w.heap.size w ((w.alloc (.cells #[.slice none 0 0] 106)).alloc (.cells (ledA inn kn (.slice An ns.length cn) (.slice Ag gs.length cg) w.heap.size nilR) 46)) := ((Below.refl _ _).alloc (Nat.le_refl _) _).alloc (by simp) _
  have bM : Blk ((w.alloc (.cells #[.slice none 0 0] 106)).alloc (.cells (ledA inn kn (.slice An ns.length cn) (.slice Ag gs.length cg) w.heap.size nilR) 46)) (w.heap.size + 1) 46 (ledA inn kn (.slice An ns.length cn) (.slice Ag gs.length cg) w.heap.size nilR) := Blk.new_at (by simp) rfl
  have bT : Blk ((w.alloc (.cells #[.slice none 0 0] 106)).alloc (.cells (ledA inn kn (.slice An ns.length cn) (.slice Ag gs.length cg) w.heap.size nilR) 46)) w.heap.size 106 #[.slice none 0 0] := (Blk.new _ _ _).alloc _
  generalize (w.alloc _).alloc _ = W at hb1 bM bT ⊢
  clear hld
  -- the nodes
  have hO := HH.out.call hb1
  obtain ⟨q, -⟩ := hO.blk.rules
  have lg := hO.blk.lt
  have hB : Below W.heap.size W (W.alloc (.cells #[] 112)) := (Below.refl _ _).alloc (Nat.le_refl _) _
  obtain ⟨vn', W2, happ, rowN, hk, -⟩ := RowN.app (cap := cn) 38 (row_made (base := w.heap.size) (c := ndA) (sz := 56) W 112 hb1.size) ((hO.call hB).rn.rd rfl) (by have := HL.out.1; simp; omega) (by simp; have := hb1.size; omega)
  rw [List.nil_append] at rowN
  obtain ⟨An', cn', rfl, -, -⟩ := rowN.sl
  have bM2 := hk.blk _ _ _ (bM.below hB bM.lt) (by decide)
  have bT2 := hk.blk _ _ _ (bT.below hB bT.lt) (by decide)
  have hb2 : Below w.heap.size w W2 := (hb1.trans (hB.mono hb1.size)).trans hk.below
  obtain ⟨q2, f2⟩ := bM2.rules
  have lm2 := bM2.lt
  have X := Lib.hid (And.intro hb2 (And.intro bM2 (And.intro bT2 rowN)))
  clear hO hB rowN hk bM bT bM2 bT2 hb1 hb2
  go_upto_region 3 with fail
  have b0 := X.out.2.1
  have hb3 : Below w.heap.size w (W2.setCell ⟨w.heap.size + 1, 18, none⟩ (.slice An' ns.length cn')) := X.out.1.setCell (p := ⟨w.heap.size + 1, 18, none⟩) (by simp) _
  have bM := b0.set_ 18 (.slice An' ns.length cn')
  rw [ledA_set_n] at bM
  have bT := X.out.2.2.1.far (p := ⟨w.heap.size + 1, 18, none⟩) (by simp) (.slice An' ns.length cn')
  have rowN := (Kt.setCell (base := w.heap.size) (ts := [46]) b0 (by simp) (by omega) 18 (.slice An' ns.length cn')).row X.out.2.2.2 (by decide)
  generalize W2.setCell _ _ = W at hb3 bM bT rowN ⊢
  clear X b0 q f2 q2 lm2 lg happ
  -- the grants
  have hO := HH.out.call hb3
  obtain ⟨q, -⟩ := hO.blk.rules
  have lg := hO.blk.lt
  have hB : Below W.heap.size W (W.alloc (.cells #[] 130)) := (Below.refl _ _).alloc (Nat.le_refl _) _
  obtain ⟨vg', W3, happ, rowG, hk, -⟩ := RowG.app (cap := cg) 39 (row_made (base := w.heap.size) (c := grA) (sz := 5) W 130 hb3.size) ((hO.call hB).rg.rd rfl) (by have := HL.out.2.1; simp; omega) (by simp; have := hb3.size; omega)
  rw [List.nil_append] at rowG
  obtain ⟨Ag', cg', rfl, -, -⟩ := rowG.sl
  have bM2 := hk.blk _ _ _ (bM.below hB bM.lt) (by decide)
  have bT2 := hk.blk _ _ _ (bT.below hB bT.lt) (by decide)
  have rowN2 := hk.row (rowN.call hB) (by decide)
  have hb4 : Below w.heap.size w W3 := (hb3.trans (hB.mono hb3.size)).trans hk.below
  obtain ⟨q2, f2⟩ := bM2.rules
  have lm2 := bM2.lt
  have X := Lib.hid (And.intro hb4 (And.intro bM2 (And.intro bT2 (And.intro rowN2 rowG))))
  clear hO hB rowN hk bM bT bM2 bT2 hb3 hb4 rowN2 rowG
  go_upto_region 4 with fail
  have b0 := X.out.2.1
  have hb5 : Below w.heap.size w (W3.setCell ⟨w.heap.size + 1, 19, none⟩ (.slice Ag' gs.length cg')) := X.out.1.setCell (p := ⟨w.heap.size + 1, 19, none⟩) (by simp) _
  have bM := b0.set_ 19 (.slice Ag' gs.length cg')
  rw [ledA_set_g] at bM
  have bT := X.out.2.2.1.far (p := ⟨w.heap.size + 1, 19, none⟩) (by simp) (.slice Ag' gs.length cg')
  have KS : Kt w.heap.size [46] W3 (W3.setCell ⟨w.heap.size + 1, 19, none⟩ (.slice Ag' gs.length cg')) := Kt.setCell b0 (by simp) (by omega) 19 _
  have rowN := KS.row X.out.2.2.2.1 (by decide)
  have rowG := KS.row X.out.2.2.2.2 (by decide)
  generalize W3.setCell _ _ = W at hb5 bM bT rowN rowG KS ⊢
  clear X b0 q f2 q2 lm2 lg happ KS
  -- the tree
  have hO := HH.out.call hb5
  have hD := hO.call (Below.refl _ _).drew
  obtain ⟨q, -⟩ := hO.blk.rules
  obtain ⟨q1, f1⟩ := bM.rules
  obtain ⟨q2, f2⟩ := bT.rules
  obtain ⟨q3, -⟩ := hO.tre.blk.rules
  have lg := hO.blk.lt
  have lm := bM.lt
  have lt := bT.lt
  have lo := hO.tre.blk.lt
  obtain ⟨vl', W4, happ, rowT, hk⟩ := RowT.app (base := w.heap.size) (cap := ct) 104 (Row.nil (w := W.drew)) (hD.tre.row.rd rfl) (by have := HL.out.2.2.1; simp; omega) hb5.size
  rw [List.nil_append] at rowT
  obtain ⟨At', ct', rfl, -, -⟩ := rowT.sl
  have bM2 := hk.blk _ _ _ bM.drew (by decide)
  have bT2 := hk.blk _ _ _ bT.drew (by decide)
  have hb6 : Below w.heap.size w W4 := hb5.drew.trans hk.below
  have rowN2 := hk.row (rowN.call (Below.refl _ _).drew) (by decide)
  have rowG2 := hk.row (rowG.call (Below.refl _ _).drew) (by decide)
  obtain ⟨q4, f4⟩ := bT2.rules
  obtain ⟨q5, -⟩ := bM2.rules
  have l4 := bT2.lt
  have l5 := bM2.lt
  have X := Lib.hid (And.intro hb6 (And.intro bM2 (And.intro bT2 (And.intro rowN2 (And.intro rowG2 rowT)))))
  clear hO hD rowN rowG rowT hk bM bT bM2 bT2 hb5 hb6 rowN2 rowG2
  go_region
  have b0 := X.out.2.2.1
  have hb7 : Below w.heap.size w (W4.setCell ⟨w.heap.size, 0, none⟩ (.slice At' t.length ct')) := X.out.1.setCell (p := ⟨w.heap.size, 0, none⟩) (by simp) _
  have bT : Blk (W4.setCell ⟨w.heap.size, 0, none⟩ (.slice At' t.length ct')) w.heap.size 106 #[.slice At' t.length ct'] := b0.set_ 0 (.slice At' t.length ct')
  have bM := X.out.2.1.far (p := ⟨w.heap.size, 0, none⟩) (by simp) (.slice At' t.length ct')
  have KS : Kt w.heap.size [106] W4 (W4.setCell ⟨w.heap.size, 0, none⟩ (.slice At' t.length ct')) := Kt.setCell b0 (by simp) (by omega) 0 _
  have rowN := KS.row X.out.2.2.2.1 (by decide)
  have rowG := KS.row X.out.2.2.2.2.1 (by decide)
  have rowT := KS.row X.out.2.2.2.2.2 (by decide)
  generalize W4.setCell _ _ = W6 at hb7 bM bT rowN rowG rowT KS ⊢
  have Y := Lib.hid (And.intro hb7 (And.intro bM (And.intro bT (And.intro rowN (And.intro rowG rowT)))))
  clear X b0 q q1 q2 q3 q4 q5 f1 f2 f4 lg lm lt lo l4 l5 happ KS bM bT rowN rowG rowT hb7
  go_wp2_with fail
  go_loopw [4] (fun s wr => ∃ (k : Nat) (vr' : Nat → Value), k ≤ 6 ∧ s = .int .i64 k ∧ Below w.heap.size w wr ∧ Blk wr (w.heap.size + 1) 46 (ledA inn kn (.slice An' ns.length cn') (.slice Ag' gs.length cg') w.heap.size vr') ∧ Blk wr w.heap.size 106 #[.slice At' t.length ct'] ∧
    RowN wr w.heap.size (.slice An' ns.length cn') ns ∧ RowG wr w.heap.size (.slice Ag' gs.length cg') gs ∧ RowT wr w.heap.size (.slice At' t.length ct') t ∧ CopyR wr w.heap.size k vr' rs) (fun s _ => 6 - (intOf s).toNat)
  case atStart => exact ⟨0, nilR, by omega, rfl, Y.out.1, Y.out.2.1, Y.out.2.2.1, Y.out.2.2.2.1, Y.out.2.2.2.2.1, Y.out.2.2.2.2.2, CopyR.start⟩
  case round =>
    obtain ⟨k, vr', hk, rfl, hb, bM, bT, rN, rG, rT, rR⟩ := hrel
    clear Y
    obtain ⟨wo, rfl⟩ : ∃ wo : World, wo = wr := ⟨_, rfl⟩
    by_cases hlt : k < 6
    · have hO := HH.out.call hb
      obtain ⟨Ar, cr, hv, -, -⟩ := (hO.rr k hlt).sl
      have c1 := ledA_r inn kn (.slice An ns.length cn) (.slice Ag gs.length cg) gt vr k hlt
      rw [hv] at c1
      have c2 := ledA_r inn kn (.slice An' ns.length cn') (.slice Ag' gs.length cg') w.heap.size vr' k hlt
      rw [rR.nil k (Nat.le_refl _)] at c2
      have hD := (hO.rr k hlt).call (Below.refl _ _).drew
      obtain ⟨v', W7, happ, rowU, hkt, hgr, hfr⟩ := RowU.app (base := w.heap.size) (cap := cr) 43 (Row.nil (w := wo.drew)) (hD.rd hv) (by have := HL.out.2.2.2 k hlt; simp; omega) hb.size
      rw [List.nil_append] at rowU
      obtain ⟨Ar', cr', rfl, -, -⟩ := rowU.sl
      have bM2 := hkt.blk _ _ _ bM.drew (by decide)
      have hb2 : Below w.heap.size w W7 := hb.drew.trans hkt.below
      obtain ⟨q, -⟩ := hO.blk.rules
      obtain ⟨q1, -⟩ := bM.rules
      obtain ⟨q2, f2⟩ := bM2.rules
      have lg := hO.blk.lt
      have lm := bM.lt
      have lm2 := bM2.lt
      have k0 : (0 : Int) ≤ (k : Int) := by omega
      have k6 : (k : Int) < 6 := by omega
      have X := Lib.hid (And.intro hb2 (And.intro bM2 (And.intro (hkt.blk _ _ _ bT.drew (by decide)) (And.intro (hkt.row (rN.call (Below.refl _ _).drew) (by decide)) (And.intro (hkt.row (rG.call (Below.refl _ _).drew) (by decide)) (And.intro (hkt.row (rT.call (Below.refl _ _).drew) (by decide)) (rR.next hlt rowU hgr hfr)))))))
      clear hO hv hD rowU hkt hgr hfr bM2 hb2 bM bT rN rG rT rR hb
      go_upto_region 8 with fail
      go_region
      clear q q1 q2 f2 lg lm lm2 happ c1 c2
      have b0 := X.out.2.1
      have hb8 : Below w.heap.size w (W7.setCell ⟨w.heap.size + 1, 21 + k, none⟩ (.slice Ar' (rs k).length cr')) := X.out.1.setCell (p := ⟨w.heap.size + 1, 21 + k, none⟩) (by simp) _
      have bM := b0.set_ (21 + k) (.slice Ar' (rs k).length cr')
      rw [ledA_set_r _ _ _ _ _ _ k hlt] at bM
      have bT := X.out.2.2.1.far (p := ⟨w.heap.size + 1, 21 + k, none⟩) (by simp) (.slice Ar' (rs k).length cr')
      have KS : Kt w.heap.size [46] W7 (W7.setCell ⟨w.heap.size + 1, 21 + k, none⟩ (.slice Ar' (rs k).length cr')) := Kt.setCell b0 (by simp) (by omega) _ _
      have rN := KS.row X.out.2.2.2.1 (by decide)
      have rG := KS.row X.out.2.2.2.2.1 (by decide)
      have rT := KS.row X.out.2.2.2.2.2.1 (by decide)
      have rR := X.out.2.2.2.2.2.2.kt KS
      generalize W7.setCell _ _ = W8 at hb8 bM bT rN rG rT rR ⊢
      have Y := Lib.hid (And.intro hb8 (And.intro bM (And.intro bT (And.intro rN (And.intro rG (And.intro rT rR))))))
      clear X b0 KS hb8 bM bT rN rG rT rR
      go_wp2_with fail
      go_roundw
      case rel => exact ⟨k + 1, _, by omega, by go_num, Y.out.1, Y.out.2.1, Y.out.2.2.1, Y.out.2.2.2.1, Y.out.2.2.2.2.1, Y.out.2.2.2.2.2.1, Y.out.2.2.2.2.2.2⟩
      case measure => simp [intOf]; omega
    · obtain rfl : k = 6 := by omega
      have Y := Lib.hid (And.intro hb (And.intro bM (And.intro bT (And.intro rN (And.intro rG (And.intro rT rR))))))
      clear hb bM bT rN rG rT rR
      go_wp2_with fail
      go_ret
      obtain ⟨hb, bM, bT, rN, rG, rT, rR⟩ := Y.out
      exact ⟨_, _, _, _, _, vr', rfl, ⟨bM, by omega, ⟨bT, rT, Nat.le_refl _⟩, rN, rG, fun j hj => by have := rR.row j hj; rw [if_pos hj] at this; exact this, rR.apart⟩, hb⟩
end
end Go.Proofs.Ytgbbhkdaalnchaa
