/-
  The document's ledger in memory; the walks of leatref11's node, grant, asked.
-/
import Derived.Test.YtgbbhkdaalnchaaTrB
import Derived.Test.YtgbbhkdaalnchaaRtD
namespace Go.Proofs.Ytgbbhkdaalnchaa
set_option linter.unusedVariables false
set_option linter.unusedSimpArgs false
open Go.RowKit Go
set_option maxRecDepth 100000

/-- A ledger's twenty-seven cells. -/
def ledA (inn : Nat → Bool) (kn : Vec) (vn vg : Value) (gt : Nat) (vr : Nat → Value) : Array Value :=
  #[.bool (inn 0), .bool (inn 1), .bool (inn 2), .bool (inn 3), .bool (inn 4), .bool (inn 5), .bool (inn 6), .bool (inn 7), .bool (inn 8), .bool (inn 9), .bool (inn 10), .bool (inn 11),
    .int .u64 kn.v0, .int .u64 kn.v1, .int .u64 kn.v2, .int .u64 kn.v3, .int .u64 kn.v4, .int .u64 kn.v5, vn, vg, .pointer (some ⟨gt, 0, none⟩), vr 0, vr 1, vr 2, vr 3, vr 4, vr 5]
section
variable (inn : Nat → Bool) (kn : Vec) (vn vg : Value) (gt : Nat) (vr : Nat → Value)
theorem ledA_size : (ledA inn kn vn vg gt vr).size = 27 := rfl
theorem ledA_in (k : Nat) (h : k < 6) : (ledA inn kn vn vg gt vr)[k]? = some (.bool (inn k)) := Vec.six (P := fun k => (ledA inn kn vn vg gt vr)[k]? = some (.bool (inn k))) rfl rfl rfl rfl rfl rfl k h
theorem ledA_left (k : Nat) (h : k < 6) : (ledA inn kn vn vg gt vr)[6 + k]? = some (.bool (inn (6 + k))) := Vec.six (P := fun k => (ledA inn kn vn vg gt vr)[6 + k]? = some (.bool (inn (6 + k)))) rfl rfl rfl rfl rfl rfl k h
theorem ledA_kn (k : Nat) (h : k < 6) : (ledA inn kn vn vg gt vr)[12 + k]? = some (.int .u64 (kn.get k)) := Vec.six (P := fun k => (ledA inn kn vn vg gt vr)[12 + k]? = some (.int .u64 (kn.get k))) rfl rfl rfl rfl rfl rfl k h
@[go_sem] theorem ledA_k0 : (ledA inn kn vn vg gt vr)[12]? = some (.int .u64 kn.v0) := rfl
@[go_sem] theorem ledA_k1 : (ledA inn kn vn vg gt vr)[13]? = some (.int .u64 kn.v1) := rfl
@[go_sem] theorem ledA_k2 : (ledA inn kn vn vg gt vr)[14]? = some (.int .u64 kn.v2) := rfl
@[go_sem] theorem ledA_k3 : (ledA inn kn vn vg gt vr)[15]? = some (.int .u64 kn.v3) := rfl
@[go_sem] theorem ledA_k4 : (ledA inn kn vn vg gt vr)[16]? = some (.int .u64 kn.v4) := rfl
@[go_sem] theorem ledA_k5 : (ledA inn kn vn vg gt vr)[17]? = some (.int .u64 kn.v5) := rfl
@[go_sem] theorem ledA_n : (ledA inn kn vn vg gt vr)[18]? = some vn := rfl
@[go_sem] theorem ledA_g : (ledA inn kn vn vg gt vr)[19]? = some vg := rfl
@[go_sem] theorem ledA_t : (ledA inn kn vn vg gt vr)[20]? = some (.pointer (some ⟨gt, 0, none⟩)) := rfl
theorem ledA_r (k : Nat) (h : k < 6) : (ledA inn kn vn vg gt vr)[21 + k]? = some (vr k) := Vec.six (P := fun k => (ledA inn kn vn vg gt vr)[21 + k]? = some (vr k)) rfl rfl rfl rfl rfl rfl k h
theorem ledA_set_n (v : Value) : (ledA inn kn vn vg gt vr).setIfInBounds 18 v = ledA inn kn v vg gt vr := rfl
theorem ledA_set_g (v : Value) : (ledA inn kn vn vg gt vr).setIfInBounds 19 v = ledA inn kn vn v gt vr := rfl
def bset (f : Nat → Bool) (k : Nat) (x : Bool) : Nat → Bool := fun i => if i = k then x else f i
def vset (f : Nat → Value) (k : Nat) (x : Value) : Nat → Value := fun i => if i = k then x else f i
theorem ledA_set_in (k : Nat) (h : k < 6) (b : Bool) : (ledA inn kn vn vg gt vr).setIfInBounds k (.bool b) = ledA (bset inn k b) kn vn vg gt vr := Vec.six (P := fun k => (ledA inn kn vn vg gt vr).setIfInBounds k (.bool b) = ledA (bset inn k b) kn vn vg gt vr) rfl rfl rfl rfl rfl rfl k h
theorem ledA_set_left (k : Nat) (h : k < 6) (b : Bool) : (ledA inn kn vn vg gt vr).setIfInBounds (6 + k) (.bool b) = ledA (bset inn (6 + k) b) kn vn vg gt vr := Vec.six (P := fun k => (ledA inn kn vn vg gt vr).setIfInBounds (6 + k) (.bool b) = ledA (bset inn (6 + k) b) kn vn vg gt vr) rfl rfl rfl rfl rfl rfl k h
theorem ledA_set_kn (k : Nat) (h : k < 6) (x : Int) : (ledA inn kn vn vg gt vr).setIfInBounds (12 + k) (.int .u64 x) = ledA inn (kn.set k x) vn vg gt vr := Vec.six (P := fun k => (ledA inn kn vn vg gt vr).setIfInBounds (12 + k) (.int .u64 x) = ledA inn (kn.set k x) vn vg gt vr) rfl rfl rfl rfl rfl rfl k h
theorem ledA_set_r (k : Nat) (h : k < 6) (v : Value) : (ledA inn kn vn vg gt vr).setIfInBounds (21 + k) v = ledA inn kn vn vg gt (vset vr k v) := Vec.six (P := fun k => (ledA inn kn vn vg gt vr).setIfInBounds (21 + k) v = ledA inn kn vn vg gt (vset vr k v)) rfl rfl rfl rfl rfl rfl k h
end
/-- A ledger at block g, with its rows. -/
structure Led (w : World) (base g : Nat) (inn : Nat → Bool) (kn : Vec) (vn vg : Value) (gt : Nat) (vl : Value) (vr : Nat → Value) (ns : List Nd) (gs : List Grt) (t : List Tn) (rs : Nat → List Int) : Prop where
  blk : Blk w g 46 (ledA inn kn vn vg gt vr)
  ge : base ≤ g
  tre : Tre w base gt vl t
  rn : RowN w base vn ns
  rg : RowG w base vg gs
  rr : ∀ k, k < 6 → RowU w base (vr k) (rs k)
  apart : ∀ j k, j < 6 → k < 6 → j ≠ k → (vr j).ownBlock = none ∨ (vr j).ownBlock ≠ (vr k).ownBlock
section
variable {w w' : World} {base g : Nat} {inn : Nat → Bool} {kn : Vec} {vn vg : Value} {gt : Nat} {vl : Value} {vr : Nat → Value} {ns : List Nd} {gs : List Grt} {t : List Tn} {rs : Nat → List Int}
theorem Led.call (h : Led w base g inn kn vn vg gt vl vr ns gs t rs) (hb : Below w.heap.size w w') : Led w' base g inn kn vn vg gt vl vr ns gs t rs :=
  ⟨h.blk.below hb h.blk.lt, h.ge, h.tre.call hb, h.rn.call hb, h.rg.call hb, fun k hk => (h.rr k hk).call hb, h.apart⟩
def ndId (id : Int) (x : Nd) : Bool := x.id == id
theorem lnode (h : Led w base g inn kn vn vg gt vl vr ns gs t rs) (id : Int) : Calls Try.prog 71 #[.pointer (some ⟨g, 0, none⟩), .int .u64 id] w fun e w' => e = .returned (.int .i64 (seek (ndId id) ns)) ∧ w = w' := by
  obtain ⟨A, cap, rfl, hcap, hmax⟩ := h.rn.sl
  unfold maxLen at hmax
  obtain ⟨q, -⟩ := h.blk.rules
  have HH := Lib.hid h
  clear h
  go_enter Try.func71, Try.ntmps71
  go_wp2_with fail
  go_loop [5] (fun i => ∃ k : Nat, k ≤ ns.length ∧ i = .int .i64 k ∧ ∀ j, j < k → ∀ y, ns[j]? = some y → ndId id y = false) (fun i => ns.length - (intOf i).toNat)
  case atStart => exact ⟨0, by omega, rfl, fun j hj => absurd hj (by omega)⟩
  case round =>
    obtain ⟨k, hk, rfl, hno⟩ := hrel
    have HN := Lib.hid hno
    clear hno
    by_cases hlt : k < ns.length
    · obtain ⟨x, hx⟩ : ∃ x, ns[k]? = some x := ⟨ns[k], List.getElem?_eq_getElem hlt⟩
      obtain ⟨g2, cap2, e, h1, h2, h3, h4⟩ := HH.out.rn.sl_pos (by omega)
      injection e with e1 e2 e3
      subst e1; subst e3
      have hr : w.cell? ⟨g2, k * 56, none⟩ = some (.int .u64 x.id) := HH.out.rn.rng ndA_size hx 0 _ (ndA_0 x)
      have HX := Lib.hid hx
      clear hx h1 h2 h3 e2
      obtain ⟨b, hb⟩ : ∃ b, (x.id == id) = b := ⟨_, rfl⟩
      have hd : decide (k < ns.length) = true := decide_eq_true hlt
      rcases (show b = true ∨ b = false from by cases b <;> simp) with rfl | rfl
      · go_wp2_with fail
        go_ret
        exact ⟨ret_int (a := (k : Int)) (seek_some HX.out hb HN.out).symm, rfl⟩
      · go_wp2_with fail
        go_round
        case rel => exact ⟨k + 1, by omega, by go_num, fun j hj y hy => by
          by_cases e : j = k
          · subst e
            have := HX.out.symm.trans hy
            cases this
            exact hb
          · exact HN.out j (by omega) y hy⟩
        case measure => simp [intOf]; omega
    · have hd : decide (k < ns.length) = false := decide_eq_false hlt
      have HK := Lib.hid hlt
      clear hlt
      go_wp2_with fail
      go_ret
      exact ⟨ret_int (a := -1) (seek_none fun x hx => by
        obtain ⟨j, hj, e⟩ := List.getElem_of_mem hx
        exact HN.out j (by have := HK.out; omega) x (by rw [List.getElem?_eq_getElem hj, e])).symm, rfl⟩
def grIs (o r : Int) (x : Grt) : Bool := x.o == o && x.r == r
theorem lgrant (h : Led w base g inn kn vn vg gt vl vr ns gs t rs) (o r : Int) : Calls Try.prog 84 #[.pointer (some ⟨g, 0, none⟩), .int .i64 o, .int .u64 r] w fun e w' => e = .returned (.int .i64 (seek (grIs o r) gs)) ∧ w = w' := by
  obtain ⟨A, cap, rfl, hcap, hmax⟩ := h.rg.sl
  unfold maxLen at hmax
  obtain ⟨q, -⟩ := h.blk.rules
  have HH := Lib.hid h
  clear h
  go_enter Try.func84, Try.ntmps84
  go_wp2_with fail
  go_loop [7] (fun i => ∃ k : Nat, k ≤ gs.length ∧ i = .int .i64 k ∧ ∀ j, j < k → ∀ y, gs[j]? = some y → grIs o r y = false) (fun i => gs.length - (intOf i).toNat)
  case atStart => exact ⟨0, by omega, rfl, fun j hj => absurd hj (by omega)⟩
  case round =>
    obtain ⟨k, hk, rfl, hno⟩ := hrel
    have HN := Lib.hid hno
    clear hno
    by_cases hlt : k < gs.length
    · obtain ⟨x, hx⟩ : ∃ x, gs[k]? = some x := ⟨gs[k], List.getElem?_eq_getElem hlt⟩
      obtain ⟨g2, cap2, e, h1, h2, h3, h4⟩ := HH.out.rg.sl_pos (by omega)
      injection e with e1 e2 e3
      subst e1; subst e3
      have hr : w.cell? ⟨g2, k * 5, none⟩ = some (.int .i64 x.o) := HH.out.rg.rng grA_size hx 0 _ rfl
      have hr1 : w.cell? ⟨g2, k * 5 + 1, none⟩ = some (.int .u64 x.r) := HH.out.rg.rng grA_size hx 1 _ rfl
      have HX := Lib.hid hx
      clear hx h1 h2 h3 e2
      obtain ⟨b, hb⟩ : ∃ b, (x.o == o) = b := ⟨_, rfl⟩
      obtain ⟨b2, hb2⟩ : ∃ b, (x.r == r) = b := ⟨_, rfl⟩
      have hd : decide (k < gs.length) = true := decide_eq_true hlt
      have HG := Lib.hid (show grIs o r x = (b && b2) from by rw [← hb, ← hb2]; rfl)
      rcases (show (b = true ∧ b2 = true) ∨ b = false ∨ (b = true ∧ b2 = false) from by cases b <;> cases b2 <;> simp) with ⟨rfl, rfl⟩ | rfl | ⟨rfl, rfl⟩
      · go_wp2_with fail
        go_ret
        exact ⟨ret_int (a := (k : Int)) (seek_some HX.out HG.out HN.out).symm, rfl⟩
      all_goals
        go_wp2_with fail
        go_round
        case rel => exact ⟨k + 1, by omega, by go_num, fun j hj y hy => by
          by_cases e : j = k
          · subst e
            have := HX.out.symm.trans hy
            cases this
            exact HG.out
          · exact HN.out j (by omega) y hy⟩
        case measure => simp [intOf]; omega
    · have hd : decide (k < gs.length) = false := decide_eq_false hlt
      have HK := Lib.hid hlt
      clear hlt
      go_wp2_with fail
      go_ret
      exact ⟨ret_int (a := -1) (seek_none fun x hx => by
        obtain ⟨j, hj, e⟩ := List.getElem_of_mem hx
        exact HN.out j (by have := HK.out; omega) x (by rw [List.getElem?_eq_getElem hj, e])).symm, rfl⟩
def SomeBoolS (w : World) (e : Ending) (w' : World) : Prop := (∃ b : Bool, e = .returned (.bool b)) ∧ w = w'
theorem lasked (h : Led w base g inn kn vn vg gt vl vr ns gs t rs) (o : Nat) (ho : o < 6) (r : Int) : Calls Try.prog 81 #[.pointer (some ⟨g, 0, none⟩), .int .i64 ((o : Int) + 1), .int .u64 r] w (SomeBoolS w) := by
  obtain ⟨A, cap, hv, hcap, hmax⟩ := (h.rr o ho).sl
  unfold maxLen at hmax
  obtain ⟨q, -⟩ := h.blk.rules
  have hc := ledA_r inn kn vn vg gt vr o ho
  rw [hv] at hc
  have o0 : (0 : Int) ≤ (o : Int) := by omega
  have o6 : (o : Int) < 6 := by omega
  have HR := h.rr o ho
  rw [hv] at HR
  clear hv h
  generalize rs o = l at *
  have HH := Lib.hid HR
  clear HR
  go_enter Try.func81, Try.ntmps81
  go_wp2_with fail
  go_loop [7] (fun i => ∃ k : Nat, k ≤ l.length ∧ i = .int .i64 k) (fun i => l.length - (intOf i).toNat)
  case atStart => exact ⟨0, by omega, rfl⟩
  case round =>
    obtain ⟨k, hk, rfl⟩ := hrel
    by_cases hlt : k < l.length
    · obtain ⟨x, hx⟩ : ∃ x, l[k]? = some x := ⟨l[k], List.getElem?_eq_getElem hlt⟩
      obtain ⟨g2, cap2, e, h1, h2, h3, h4⟩ := HH.out.sl_pos (by omega)
      injection e with e1 e2 e3
      subst e1; subst e3
      have hr0 := HH.out.rng u64A_size hx 0 (.int .u64 x) rfl
      have hr : w.cell? ⟨g2, k, none⟩ = some (.int .u64 x) := by rw [show k * 1 + 0 = k from by omega] at hr0; exact hr0
      clear hx h1 h2 h3 e2 hr0
      obtain ⟨b, hb⟩ : ∃ b, (x == r) = b := ⟨_, rfl⟩
      have hd : decide (k < l.length) = true := decide_eq_true hlt
      rcases (show b = true ∨ b = false from by cases b <;> simp) with rfl | rfl
      · go_wp2_with fail
        go_ret
        exact ⟨⟨_, rfl⟩, rfl⟩
      · go_wp2_with fail
        go_round
        case rel => exact ⟨k + 1, by omega, by go_num⟩
        case measure => simp [intOf]; omega
    · have hd : decide (k < l.length) = false := decide_eq_false hlt
      go_wp2_with fail
      go_ret
      exact ⟨⟨_, rfl⟩, rfl⟩
end
end Go.Proofs.Ytgbbhkdaalnchaa
