/-
  The walks of the document's package leatref09: Id, find, Has, Path.
-/
import Derived.Test.YtgbbhkdaalnchaaGQ
namespace Go.Proofs.Ytgbbhkdaalnchaa
set_option linter.unusedVariables false
set_option linter.unusedSimpArgs false
open Go.RowKit Go
set_option maxRecDepth 100000

/-- A tree at block g, its nodes in a row of the call's own. -/
structure Tre (w : World) (base g : Nat) (v : Value) (t : List Tn) : Prop where
  blk : Blk w g 106 #[v]
  row : RowT w base v t
  ge : base ≤ g
theorem Tre.call {w w' : World} {base g : Nat} {v : Value} {t : List Tn} (h : Tre w base g v t) (hb : Below w.heap.size w w') : Tre w' base g v t := ⟨h.blk.below hb h.blk.lt, h.row.call hb, h.ge⟩
/-- What a tree is like: the number 0 is none's; what a node is below is there, and came earlier. -/
def TreeOk (t : List Tn) : Prop := ∃ rk : Int → Nat, (∀ x ∈ t, x.id ≠ 0) ∧ (∀ x ∈ t, rk x.id < t.length) ∧ ∀ x ∈ t, x.p ≠ 0 → ∃ y ∈ t, y.id = x.p ∧ rk y.id < rk x.id
def isId (id : Int) (x : Tn) : Bool := x.id == id
def findI (t : List Tn) (id : Int) : Int := seek (isId id) t
theorem isId_iff {id : Int} {x : Tn} : isId id x = true ↔ x.id = id := by simp [isId]
section
variable {w : World} {base g : Nat} {v : Value} {t : List Tn}
theorem rfind (h : Tre w base g v t) (id : Int) : Calls Try.prog 90 #[.pointer (some ⟨g, 0, none⟩), .int .u64 id] w fun e w' => e = .returned (.int .i64 (findI t id)) ∧ w = w' := by
  obtain ⟨A, cap, rfl, hcap, hmax⟩ := h.row.sl
  unfold maxLen at hmax
  obtain ⟨q, -⟩ := h.blk.rules
  have HH := Lib.hid h
  clear h
  go_enter Try.func90, Try.ntmps90
  go_wp2_with fail
  go_loop [5] (fun i => ∃ k : Nat, k ≤ t.length ∧ i = .int .i64 k ∧ ∀ j, j < k → ∀ y, t[j]? = some y → isId id y = false) (fun i => t.length - (intOf i).toNat)
  case atStart => exact ⟨0, by omega, rfl, fun j hj => absurd hj (by omega)⟩
  case round =>
    obtain ⟨k, hk, rfl, hno⟩ := hrel
    have HN := Lib.hid hno
    clear hno
    by_cases hlt : k < t.length
    · obtain ⟨x, hx⟩ : ∃ x, t[k]? = some x := ⟨t[k], List.getElem?_eq_getElem hlt⟩
      obtain ⟨g2, cap2, e, h1, h2, h3, h4⟩ := HH.out.row.sl_pos (by omega)
      injection e with e1 e2 e3
      subst e1; subst e3
      have hr : w.cell? ⟨g2, k * 2, none⟩ = some (.int .u64 x.id) := HH.out.row.rng tnA_size hx 0 _ rfl
      have HX := Lib.hid hx
      clear hx h1 h2 h3 e2
      obtain ⟨b, hb⟩ : ∃ b, (x.id == id) = b := ⟨_, rfl⟩
      have hd : decide (k < t.length) = true := decide_eq_true hlt
      rcases (show b = true ∨ b = false from by cases b <;> simp) with rfl | rfl
      · go_wp2_with fail
        go_ret
        exact ⟨ret_int (a := (k : Int)) (seek_some HX.out hb HN.out).symm, rfl⟩
      · go_wp2_with fail
        go_round
        case rel => exact ⟨k + 1, by omega, by go_num, fun j hj y hy => by
          by_cases e : j = k
          · subst e
            have := HX.out.symm.trans hy
            cases this
            exact hb
          · exact HN.out j (by omega) y hy⟩
        case measure => simp [intOf]; omega
    · have hd : decide (k < t.length) = false := decide_eq_false hlt
      have HK := Lib.hid hlt
      clear hlt
      go_wp2_with fail
      go_ret
      exact ⟨ret_int (a := -1) (seek_none fun x hx => by
        obtain ⟨j, hj, e⟩ := List.getElem_of_mem hx
        exact HN.out j (by have := HK.out; omega) x (by rw [List.getElem?_eq_getElem hj, e])).symm, rfl⟩
theorem thas (h : Tre w base g v t) (id : Int) (b : Bool) (hb : decide (0 ≤ findI t id) = b) : Calls Try.prog 89 #[.pointer (some ⟨g, 0, none⟩), .int .u64 id] w fun e w' => e = .returned (.bool b) ∧ w = w' := by
  have C := Lib.hid (rfind h id)
  go_enter Try.func89, Try.ntmps89
  go_wp2_with fail
  refine C.out.mono ?_
  rintro e w' ⟨rfl, rfl⟩
  go_wp2_with fail
  go_ret
  exact ⟨rfl, rfl⟩
/-- How far it is from a node to a root, at most. -/
def far (rk : Int → Nat) (t : List Tn) (id : Int) : Nat := if findI t id = -1 then 0 else rk id + 1
/-- What Path answers: nodes that are there. -/
def PathPost (t : List Tn) (w : World) (e : Ending) (w' : World) : Prop := ∃ u l, e = .returned u ∧ RowU w' w.heap.size u l ∧ l.length ≤ t.length ∧ (∀ x ∈ l, ∃ y ∈ t, y.id = x) ∧ Below w.heap.size w w'
theorem findI_nat {id : Int} (h : 0 ≤ findI t id) : ∃ (k : Nat) (x : Tn), findI t id = k ∧ t[k]? = some x ∧ x.id = id := by
  rcases seek_cases (isId id) t with ⟨h1, _⟩ | ⟨k, x, h1, h2, h3⟩
  · unfold findI at h; omega
  · exact ⟨k, x, h1, h2, isId_iff.1 h3⟩
theorem findI_zero (hok : TreeOk t) : findI t 0 = -1 := by
  obtain ⟨rk, h0, _⟩ := hok
  exact seek_none fun x hx => by
    cases h : isId 0 x
    · rfl
    · exact absurd (isId_iff.1 h) (h0 x hx)
theorem far_up {rk : Int → Nat} (h0 : ∀ x ∈ t, x.id ≠ 0) (hup : ∀ x ∈ t, x.p ≠ 0 → ∃ y ∈ t, y.id = x.p ∧ rk y.id < rk x.id) : ∀ x ∈ t, far rk t x.p ≤ rk x.id := fun x hx => by
  unfold far
  split
  · omega
  · rename_i hf
    rcases seek_cases (isId x.p) t with ⟨h1, _⟩ | ⟨k, y, h1, h2, h3⟩
    · exact absurd h1 hf
    · have hy := isId_iff.1 h3
      obtain ⟨z, _, h5, h6⟩ := hup x hx (by rw [← hy]; exact h0 y (List.mem_of_getElem? h2))
      rw [h5] at h6
      omega
set_option maxHeartbeats 1000000 in
theorem rpath (h : Tre w base g v t) (hok : TreeOk t) (hn : t.length ≤ 1000) (id : Int) : Calls Try.prog 82 #[.pointer (some ⟨g, 0, none⟩), .int .u64 id] w (PathPost t w) := by
  obtain ⟨rk, h0, hlt, hup⟩ := hok
  obtain ⟨A, cap, rfl, hcap, hmax⟩ := h.row.sl
  unfold maxLen at hmax
  have HH := Lib.hid h
  have HO := Lib.hid (And.intro hlt (far_up h0 hup))
  clear h h0 hlt hup
  go_enter Try.func82, Try.ntmps82
  go_wp2_with fail
  go_loopw [1, 5] (fun s u wr => ∃ (d : Int) (l : List Int), s = .int .u64 d ∧ RowU wr w.heap.size u l ∧ Below w.heap.size w wr ∧ l.length + far rk t d ≤ t.length ∧ ∀ x ∈ l, ∃ y ∈ t, y.id = x) (fun s _ _ => far rk t (intOf s))
  case atStart =>
    refine ⟨id, [], rfl, Row.nil, Below.refl _ _, ?_, fun x hx => by cases hx⟩
    unfold far
    split
    · simp
    · rename_i hf
      rcases seek_cases (isId id) t with ⟨h1, _⟩ | ⟨k, x, h1, h2, h3⟩
      · exact absurd h1 hf
      · have := HO.out.1 x (List.mem_of_getElem? h2)
        rw [isId_iff.1 h3] at this
        simp; omega
  case round =>
    obtain ⟨d, l, rfl, hrow, hbw, hfar, hmem⟩ := hrel
    obtain ⟨wo, rfl⟩ : ∃ wo : World, wo = wr := ⟨_, rfl⟩
    have hT := HH.out.call hbw
    have HR := Lib.hid hrow
    have HM := Lib.hid (And.intro hfar hmem)
    clear hrow hfar hmem
    rcases seek_cases (isId d) t with ⟨hf, _⟩ | ⟨k, x, hf, hx, hxd⟩
    · have hf' : findI t d = -1 := hf
      have C1 := rfind hT d
      rw [hf'] at C1
      have C1 := Lib.hid C1
      clear hf hf' hT
      go_wp2_with fail
      refine C1.out.mono ?_
      rintro e w' ⟨rfl, rfl⟩
      go_wp2_with fail
      go_ret
      exact ⟨_, l, rfl, HR.out, by have := HM.out.1; omega, HM.out.2, hbw⟩
    · have hf' : findI t d = (k : Int) := hf
      have hid := isId_iff.1 hxd
      have hk : k < t.length := (List.getElem?_eq_some_iff.1 hx).1
      obtain ⟨g2, cap2, e, e1, e2, e3, e4⟩ := hT.row.sl_pos (by omega)
      injection e with i1 i2 i3
      subst i1; subst i3
      have C1 := rfind hT d
      rw [hf'] at C1
      have hfd : far rk t d = rk d + 1 := by unfold far; rw [hf', if_neg (by omega)]
      have hup := HO.out.2 x (List.mem_of_getElem? hx)
      rw [hid] at hup
      -- what is appended
      have hB1 : Below wo.heap.size wo (wo.alloc (.cells (u64A d) 28)) := (Below.refl _ _).alloc (Nat.le_refl _) _
      obtain ⟨u', w1, happ, hrow1, hk1, -⟩ := RowU.app (cap := 1) 43 (HR.out.call hB1) (rd_one u64A_size (Blk.new wo 28 (u64A d))) (by have := HM.out.1; simp; omega) (by simp; have := hbw.size; omega)
      have hb1 : Below w.heap.size w w1 := hbw.trans (((hB1.mono hbw.size)).trans hk1.below)
      have hT1 := HH.out.call hb1
      have C2 := rfind hT1 d
      rw [hf'] at C2
      have C2 := Lib.hid (show ∀ n, Calls Try.prog 90 #[.pointer (some ⟨g, 0, none⟩), .int .u64 d] (w1.drewN n) (fun e w' => e = .returned (.int .i64 (k : Int)) ∧ w' = w1.drewN n) from fun n => by
        have := rfind (hT1.call (below_drewN (Below.refl _ _) n)) d
        rw [hf'] at this
        exact this.mono fun _ _ ⟨a, b⟩ => ⟨a, b.symm⟩)
      have C1 := Lib.hid C1
      obtain ⟨q1, -⟩ := hT1.blk.rules
      have hp1 : w1.cell? ⟨g2, k * 2 + 1, none⟩ = some (.int .u64 x.p) := hT1.row.rng tnA_size hx 1 _ rfl
      have lg2 : g2 < w1.heap.size := Nat.lt_of_lt_of_le e4 (Nat.le_trans (by simp) hk1.size)
      have HT1 := Lib.hid (And.intro hrow1 (And.intro hb1 (And.intro hx (And.intro hid (And.intro hfd hup)))))
      have dk : decide ((0 : Int) ≤ (k : Int)) = true := by simp
      simp only [List.length_singleton, u64A] at happ
      clear hT hT1 hrow1 hb1 hk1 hB1 hf hf' hid hx hxd hfd hup e1 e2 e3 e4 i2
      go_wp2_with fail
      refine C1.out.mono ?_
      rintro e w' ⟨rfl, rfl⟩
      go_wp2_with fail
      clear happ
      go_quiet ((go_at_call 90; exact Calls.quiet_of_same (C2.out _)))
      clear q1 hp1
      go_wp2_with fail
      go_roundw
      case rel =>
        obtain ⟨r1, r2, r3, r4, r5, r6⟩ := HT1.out
        have hm := HM.out
        exact ⟨x.p, l ++ [d], rfl, (r1.call (below_drewN (Below.refl _ _) _)), below_drewN r2 _, by simp; omega, fun y hy => by
          rcases List.mem_append.1 hy with hy | hy
          · exact hm.2 y hy
          · obtain rfl := List.mem_singleton.1 hy
            exact ⟨x, List.mem_of_getElem? r3, r4⟩⟩
      case measure =>
        obtain ⟨r1, r2, r3, r4, r5, r6⟩ := HT1.out
        simp only [intOf]
        omega
end
end Go.Proofs.Ytgbbhkdaalnchaa
