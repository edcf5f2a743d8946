/-
  The walk of the document's package leatref09: Add.
-/
import Derived.Test.YtgbbhkdaalnchaaTrA
import Derived.Test.YtgbbhkdaalnchaaGQ
import Derived.RegionTactic
import Derived.Deep.DeepCutAuto
import Derived.Deep.CutBlock
namespace Go.Proofs.Ytgbbhkdaalnchaa
set_option linter.unusedVariables false
set_option linter.unusedSimpArgs false
open Go.RowKit Go
set_option maxRecDepth 100000

/-- What Add answers and leaves. -/
def AddPost (t : List Tn) (base g : Nat) (id p : Int) (w : World) (e : Ending) (w' : World) : Prop :=
  ∃ n : Int, e = .returned (.int .i64 n) ∧ ((n ≠ 0 ∧ Below w.heap.size w w') ∨ (n = 0 ∧ ∃ v' t', Tre w' base g v' t' ∧ Kt base [106, 136] w w' ∧ t'.Perm (⟨id, p⟩ :: t) ∧ id ≠ 0 ∧ (∀ x ∈ t, x.id ≠ id) ∧ (p = 0 ∨ ∃ x ∈ t, x.id = p) ∧ t.length < 32))
section
variable {w : World} {base g : Nat} {v : Value} {t : List Tn}
theorem AddPost.no {id p n : Int} {w' : World} (hn : n ≠ 0) (hb : Below w.heap.size w w') : AddPost t base g id p w (.returned (.int .i64 n)) w' := ⟨n, rfl, .inl ⟨hn, hb⟩⟩
set_option maxHeartbeats 2000000 in
theorem radd (h : Tre w base g v t) (hok : TreeOk t) (hn : t.length ≤ 32) (id p : Int) : Calls Try.prog 80 #[.pointer (some ⟨g, 0, none⟩), .int .u64 id, .int .u64 p] w (AddPost t base g id p w) := by
  obtain ⟨A, cap, rfl, hcap, hmax⟩ := h.row.sl
  unfold maxLen at hmax
  obtain ⟨q, -⟩ := h.blk.rules
  have HH := Lib.hid h
  have HO := Lib.hid hok
  obtain ⟨b2, h2⟩ : ∃ b, decide (0 ≤ findI t id) = b := ⟨_, rfl⟩
  obtain ⟨b4, h4⟩ : ∃ b, decide (0 ≤ findI t p) = b := ⟨_, rfl⟩
  have C2 := Lib.hid (thas h id b2 h2)
  have C4 := Lib.hid (thas h p b4 h4)
  have C5 := Lib.hid (rpath h hok (by omega) p)
  have H2 := Lib.hid h2
  have H4 := Lib.hid h4
  obtain ⟨b1, h1⟩ : ∃ b, (id == 0) = b := ⟨_, rfl⟩
  obtain ⟨b3, h3⟩ : ∃ b, (p != 0) = b := ⟨_, rfl⟩
  obtain ⟨b5, h5⟩ : ∃ b, decide (32 ≤ (t.length : Int)) = b := ⟨_, rfl⟩
  clear h hok h2 h4
  rcases (show b1 = true ∨ b1 = false from by cases b1 <;> simp) with rfl | rfl
  · go_enter Try.func80, Try.ntmps80
    go_wp2_with fail
    go_ret
    exact AddPost.no (by decide) (Below.refl _ _)
  rcases (show b2 = true ∨ b2 = false from by cases b2 <;> simp) with rfl | rfl
  · go_enter Try.func80, Try.ntmps80
    go_wp2_with fail
    refine C2.out.mono ?_
    rintro e w' ⟨rfl, rfl⟩
    go_wp2_with fail
    go_ret
    exact AddPost.no (by decide) (Below.refl _ _)
  rcases (show (b3 = true ∧ b4 = false) ∨ (b3 = false ∨ b4 = true) from by cases b3 <;> cases b4 <;> simp) with ⟨rfl, rfl⟩ | h34
  · go_enter Try.func80, Try.ntmps80
    go_wp2_with fail
    refine C2.out.mono ?_
    rintro e w' ⟨rfl, rfl⟩
    go_wp2_with fail
    refine C4.out.mono ?_
    rintro e w' ⟨rfl, rfl⟩
    go_wp2_with fail
    go_ret
    exact AddPost.no (by decide) (Below.refl _ _)
  have HP : Hid (p = 0 ∨ ∃ x ∈ t, x.id = p) := Lib.hid (by
    rcases h34 with rfl | rfl
    · left; simpa using h3
    · right
      obtain ⟨k, x, _, hx, e⟩ := findI_nat (t := t) (by simpa using H4.out)
      exact ⟨x, List.mem_of_getElem? hx, e⟩)
  have h34' : b3 = false ∨ (b3 = true ∧ b4 = true) := by rcases h34 with h | h <;> cases b3 <;> simp_all
  clear h34
  rcases (show b5 = true ∨ b5 = false from by cases b5 <;> simp) with rfl | rfl
  · rcases h34' with rfl | ⟨rfl, rfl⟩
    all_goals
      go_enter Try.func80, Try.ntmps80
      go_wp2_with (first | (go_at_call 89; (with_reducible refine C2.out.mono ?_); rintro e w' ⟨rfl, rfl⟩) | (go_at_call 89; (with_reducible refine C4.out.mono ?_); rintro e w' ⟨rfl, rfl⟩))
      go_ret
      exact AddPost.no (by decide) (Below.refl _ _)
  have hn2 : t.length < 32 := by simp at h5; omega
  rcases h34' with rfl | ⟨rfl, rfl⟩
  all_goals
    go_enter Try.func80, Try.ntmps80
    go_wp2_with (first | (go_at_call 89; (with_reducible refine C2.out.mono ?_); rintro e w' ⟨rfl, rfl⟩) | (go_at_call 89; (with_reducible refine C4.out.mono ?_); rintro e w' ⟨rfl, rfl⟩))
    refine C5.out.mono ?_
    rintro r w1 ⟨u, l, rfl, hl, -, -, hb⟩
    obtain ⟨Al, cl, rfl, hcl, hml⟩ := hl.sl
    have T1 := HH.out.call hb
    clear hl
    by_cases hl4 : 4 ≤ l.length
    · have d4 : decide (4 ≤ (l.length : Int)) = true := by simp; omega
      go_wp2_with fail
      go_ret
      exact AddPost.no (by decide) hb
    · have d4 : decide (4 ≤ (l.length : Int)) = false := by simp; omega
      have hB1 : Below w1.heap.size w1 (w1.alloc (.cells (tnA ⟨0, 0⟩) 136)) := (Below.refl _ _).alloc (Nat.le_refl _) _
      have hbs : base ≤ w.heap.size := by have h1 := HH.out.ge; have h2 := HH.out.blk.lt; omega
      obtain ⟨v', w2, happ, hrow2, hk2⟩ := RowT.app (cap := 1) 104 (T1.row.call hB1) (rd_one tnA_size (Blk.new w1 136 (tnA ⟨0, 0⟩))) (by simp; omega) (by simp; have := hb.size; omega)
      have hk2' : Kt base [106, 136] w w2 := ((Kt.of_below hb hbs).trans (Kt.of_below hB1 (by have := hb.size; omega))).trans (hk2.more (by simp))
      have b2 : Blk w2 g 106 #[.slice A t.length cap] := hk2.blk _ _ _ ((T1.call hB1).blk) (by decide)
      obtain ⟨q2, f2⟩ := b2.rules
      obtain ⟨q1, -⟩ := T1.blk.rules
      have lg1 := T1.blk.lt
      have lg2 := b2.lt
      obtain ⟨g2, cap2, rfl, e1, e2, e3, e4⟩ := hrow2.sl_pos (by simp)
      have e5 : (t ++ [(⟨0, 0⟩ : Tn)]).length = t.length + 1 := by simp
      rw [e5] at happ hrow2 e1
      simp only [List.length_singleton] at happ
      unfold maxLen at e2
      have B3 := (hk2.blk _ _ _ ((T1.call hB1).blk) (by decide)).set_ 0 (.slice (some ⟨g2, 0, none⟩) (t.length + 1) cap2)
      have K3 : Kt base [106, 136] w2 (w2.setCell ⟨g, 0, none⟩ (.slice (some ⟨g2, 0, none⟩) (t.length + 1) cap2)) := Kt.setCell b2 (by simp) HH.out.ge _ _
      have R3 := (Kt.setCell (ts := [106]) b2 (by simp) HH.out.ge 0 (.slice (some ⟨g2, 0, none⟩) (t.length + 1) cap2)).row hrow2 (by decide)
      have KK := Lib.hid (And.intro B3 (And.intro (hk2'.trans K3) R3))
      clear B3 K3 R3 e5
      have R2 := Lib.hid hrow2
      have K2 := Lib.hid hk2'
      have B2 := Lib.hid b2
      clear hrow2 hk2 hk2' b2 T1 hB1 hl4
      go_wp2_with fail
      obtain ⟨B3, K3, R3⟩ := KK.out
      generalize w2.setCell _ _ = w3 at B3 K3 R3 ⊢
      have hend : RowT w3 base (.slice (some ⟨g2, 0, none⟩) (t.length + 1) cap2) (gap t t.length ⟨0, 0⟩) := by rw [gap_end]; exact R3
      have KI := Lib.hid (And.intro B3 (And.intro K3 hend))
      clear B3 K3 R3 hend KK R2 K2 B2 q q1 q2 f2 happ lg1 lg2 e1 hb e3 e4 hbs
      go_loopw [7] (fun s wr => ∃ (k : Nat) (y : Tn), k ≤ t.length ∧ s = .int .i64 k ∧ Blk wr g 106 #[(.slice (some ⟨g2, 0, none⟩) (t.length + 1) cap2)] ∧ Kt base [106, 136] w wr ∧ RowT wr base (.slice (some ⟨g2, 0, none⟩) (t.length + 1) cap2) (gap t k y)) (fun s _ => (intOf s).toNat)
      case atStart => exact ⟨t.length, ⟨0, 0⟩, Nat.le_refl _, rfl, KI.out.1, KI.out.2.1, KI.out.2.2⟩
      case round =>
        obtain ⟨k, y, hk, rfl, hB, hK, hR⟩ := hrel
        obtain ⟨wo, rfl⟩ : ∃ wo : World, wo = wr := ⟨_, rfl⟩
        clear KI
        obtain ⟨q, f⟩ := hB.rules
        have lg := hB.lt
        by_cases hk0 : 0 < k
        · obtain ⟨x, hx⟩ : ∃ x, t[k - 1]? = some x := ⟨t[k - 1], List.getElem?_eq_getElem (by omega)⟩
          have hx2 : (gap t k y)[k - 1]? = some x := by rw [gap_lo hk (by omega)]; exact hx
          have hc : wo.cell? ⟨g2, (k - 1) * 2, none⟩ = some (.int .u64 x.id) := hR.rng tnA_size hx2 0 _ rfl
          obtain ⟨b, hbb⟩ : ∃ b, decide (id < x.id) = b := ⟨_, rfl⟩
          have dk : decide ((0 : Int) < (k : Int)) = true := by simp; omega
          rcases (show b = true ∨ b = false from by cases b <;> simp) with rfl | rfl
          · have hRd : RowT wo.drew base (.slice (some ⟨g2, 0, none⟩) (t.length + 1) cap2) (gap t k y) := hR.call (Below.refl _ _).drew
            obtain ⟨w4, hst, hR4, hK4⟩ := hRd.put (P := Try.prog) tnA_size (i := k) (by rw [gap_length hk]; omega) (gap_get hk) 136 0 (tnA x) (size_tn _) (by simp [tnA_size]) (tnA_all _) (y := x) (by simp [tnA]) (ts := [136]) (by simp)
            have hld := run_ldR (P := Try.prog) (hRd.rng tnA_size hx2) Try.underlying136 rfl (size_tn x)
            rw [Nat.add_zero] at hst
            have HN := Lib.hid (And.intro hB (And.intro hK (And.intro hR4 (And.intro hK4 hx))))
            clear hB hK hR hRd hR4 hK4 hx hx2
            go_upto_region 12 with fail
            go_region
            clear q f hst hld hc lg
            go_wp2_with fail
            go_roundw
            case rel =>
              obtain ⟨n1, n2, n3, n4, n5⟩ := HN.out
              rw [gap_set hk] at n3
              have e := gap_down (t := t) (k := k - 1) n5
              rw [show k - 1 + 1 = k from by omega] at e
              rw [e] at n3
              exact ⟨k - 1, x, by omega, congrArg (Value.int .i64) (by omega), n4.blk _ _ _ n1 (by decide), n2.trans (Kt.drew.trans (n4.more (by simp))), n3⟩
            case measure => simp [intOf]; omega
          · clear hx hx2
            have hst0 := hR.put (P := Try.prog) tnA_size (i := k) (by rw [gap_length hk]; omega) (gap_get hk) 136 0 (tnA ⟨id, p⟩) (size_tn _) (by simp [tnA_size]) (tnA_all _) (y := ⟨id, p⟩) (by simp [tnA]) (ts := [136]) (by simp)
            obtain ⟨w4, hst, hR4, hK4⟩ := hst0
            rw [Nat.add_zero] at hst
            rw [gap_set hk] at hR4
            have FIN := Lib.hid (And.intro (hK4.blk _ _ _ hB (by decide)) (And.intro (hK.trans (hK4.more (by simp))) hR4))
            clear hR4 hK4 hB hK hR
            go_wp2_with fail
            go_ret
            exact ⟨0, rfl, .inr ⟨rfl, _, _, ⟨FIN.out.1, FIN.out.2.2, HH.out.ge⟩, FIN.out.2.1, gap_perm hk, by simpa using h1, fun x hx e => by
              obtain ⟨m, y', hm, _⟩ := seek_ge hx (isId_iff.2 e)
              have hh := H2.out
              unfold findI at hh
              rw [hm] at hh
              simp at hh, HP.out, hn2⟩⟩
        · have dk : decide ((0 : Int) < (k : Int)) = false := by simp; omega
          have hst0 := hR.put (P := Try.prog) tnA_size (i := k) (by rw [gap_length hk]; omega) (gap_get hk) 136 0 (tnA ⟨id, p⟩) (size_tn _) (by simp [tnA_size]) (tnA_all _) (y := ⟨id, p⟩) (by simp [tnA]) (ts := [136]) (by simp)
          obtain ⟨w4, hst, hR4, hK4⟩ := hst0
          rw [Nat.add_zero] at hst
          rw [gap_set hk] at hR4
          have FIN := Lib.hid (And.intro (hK4.blk _ _ _ hB (by decide)) (And.intro (hK.trans (hK4.more (by simp))) hR4))
          clear hR4 hK4 hB hK hR
          go_wp2_with fail
          go_ret
          exact ⟨0, rfl, .inr ⟨rfl, _, _, ⟨FIN.out.1, FIN.out.2.2, HH.out.ge⟩, FIN.out.2.1, gap_perm hk, by simpa using h1, fun x hx e => by
            obtain ⟨m, y', hm, _⟩ := seek_ge hx (isId_iff.2 e)
            have hh := H2.out
            unfold findI at hh
            rw [hm] at hh
            simp at hh, HP.out, hn2⟩⟩
end
end Go.Proofs.Ytgbbhkdaalnchaa
