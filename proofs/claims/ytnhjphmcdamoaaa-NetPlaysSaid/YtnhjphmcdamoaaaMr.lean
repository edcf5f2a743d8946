/-
  The walk of the document's leatref20.May: one of a kind that tells events; both Mays whole.
-/
import Derived.Test.YtnhjphmcdamoaaaMn
import Derived.Test.YtnhjphmcdamoaaaMo
namespace Go.Proofs.Ytnhjphmcdamoaaa
set_option linter.unusedVariables false
set_option linter.unusedSimpArgs false
open Go.RowKit
set_option maxRecDepth 100000

theorem rmay20_sync (m : Ms) (o : m.ok) (hE : endsB m = true) (k1 : (m.k == 1) = true) (k2 : (m.k == 2) = false) (k3 : (m.k != 1) = false) (A : Option Addr) (c : Nat) (w : World) (hL : ERows w w.heap.size A m.l) (hc : m.l.length ≤ c) (hm : c ≤ maxLen) : Calls Try.prog 64 #[.agg (mcA ⟨m.k, m.f, m.t, m.d, .slice A m.l.length c, m.n, m.a⟩)] w fun r w' => r = .returned (.bool (syncB m)) ∧ Below w.heap.size w w' := by
  have hends : regE m.f = true ∧ regE m.t = true ∧ (m.f == m.t) = false ∧ vmayB m.d = true := by
    unfold endsB at hE
    simp only [Bool.and_eq_true, decide_eq_true_eq] at hE
    exact ⟨hE.1.1.1, hE.1.1.2, by rw [beq_eq_false_iff_ne]; exact hE.1.2, hE.2⟩
  obtain ⟨h1, h2, h3, h4⟩ := hends
  clear hE
  have hcase : (syncB m = false ∧ 16 < m.l.length) ∨ (syncB m = false ∧ m.l.length ≤ 16 ∧ m.n ≠ 0) ∨ (syncB m = false ∧ m.l.length ≤ 16 ∧ m.n = 0 ∧ m.a ≠ 0) ∨ (syncB m = m.l.all emayB ∧ m.l.length ≤ 16 ∧ m.n = 0 ∧ m.a = 0) := by
    unfold syncB
    by_cases a1 : m.l.length ≤ 16
    · by_cases a2 : m.n = 0
      · by_cases a3 : m.a = 0
        · exact .inr (.inr (.inr ⟨by simp [a1, a2, a3], a1, a2, a3⟩))
        · exact .inr (.inr (.inl ⟨by simp [a3], a1, a2, a3⟩))
      · exact .inr (.inl ⟨by simp [a2], a1, a2⟩)
    · exact .inl ⟨by simp [a1], by omega⟩
  have HL := Lib.hid hL
  have OK := Lib.hid o.l
  clear o hL
  have hm1 : c ≤ 9223372036854775807 := hm
  rcases hcase with ⟨hR, a1⟩ | ⟨hR, a1, a2⟩ | ⟨hR, a1, a2, a3⟩ | ⟨hR, a1, a2, a3⟩
  · have HR := Lib.hid hR
    clear hR
    have hl := hc
    clear HL OK
    generalize m.l.length = nl at *
    have a8 : (16 : Int) < (nl : Int) := by omega
    have a9 : decide ((16 : Int) < (nl : Int)) = true := decide_eq_true a8
    have C1 := Lib.hid (rregion20_is m.f _ h1)
    have C2 := Lib.hid (rregion20_is m.t _ h2)
    have C3 := Lib.hid (rmay m.d _ h4)
    clear h1 h2 h4
    go_enter Try.func64, Try.ntmps64
    go_wp2_with (go_at_call 72; (first | (with_reducible refine (C1.out _).mono ?_) | (with_reducible refine (C2.out _).mono ?_)); rintro r w1 ⟨rfl, rfl⟩)
    have T0 : Trk w _ [(w.heap.size, 48, mcA ⟨m.k, m.f, m.t, m.d, .slice A nl c, m.n, m.a⟩)] := (Trk.nil w).push (t := 48) (cs := mcA ⟨m.k, m.f, m.t, m.d, .slice A nl c, m.n, m.a⟩) rfl
    refine (C3.out _).mono ?_
    rintro r w2 ⟨rfl, hb2⟩
    have T1 := T0.call hb2
    clear T0 hb2
    obtain ⟨q0, -, -⟩ := T1.rules
    obtain ⟨l0, -⟩ := T1.lts
    go_wp2_with fail
    go_ret
    exact ⟨by rw [HR.out]; rfl, T1.below⟩
  · have HR := Lib.hid hR
    clear hR
    have hl := hc
    clear HL OK
    generalize m.l.length = nl at *
    have a6 : (m.n == 0) = false := by rw [beq_eq_false_iff_ne]; exact a2
    have a7 : (m.n != 0) = true := by rw [bne, a6]; rfl
    clear a2
    have a8 : ¬ (16 : Int) < (nl : Int) := by omega
    have a9 : decide ((16 : Int) < (nl : Int)) = false := decide_eq_false a8
    have C1 := Lib.hid (rregion20_is m.f _ h1)
    have C2 := Lib.hid (rregion20_is m.t _ h2)
    have C3 := Lib.hid (rmay m.d _ h4)
    clear h1 h2 h4
    go_enter Try.func64, Try.ntmps64
    go_wp2_with (go_at_call 72; (first | (with_reducible refine (C1.out _).mono ?_) | (with_reducible refine (C2.out _).mono ?_)); rintro r w1 ⟨rfl, rfl⟩)
    have T0 : Trk w _ [(w.heap.size, 48, mcA ⟨m.k, m.f, m.t, m.d, .slice A nl c, m.n, m.a⟩)] := (Trk.nil w).push (t := 48) (cs := mcA ⟨m.k, m.f, m.t, m.d, .slice A nl c, m.n, m.a⟩) rfl
    refine (C3.out _).mono ?_
    rintro r w2 ⟨rfl, hb2⟩
    have T1 := T0.call hb2
    clear T0 hb2
    obtain ⟨q0, -, -⟩ := T1.rules
    obtain ⟨l0, -⟩ := T1.lts
    go_wp2_with fail
    go_ret
    exact ⟨by rw [HR.out]; rfl, T1.below⟩
  · have HR := Lib.hid hR
    clear hR
    have hl := hc
    clear HL OK
    generalize m.l.length = nl at *
    have a6 : (m.n == 0) = true := by rw [a2]; rfl
    have a7 : (m.n != 0) = false := by rw [a2]; rfl
    have b6 : (m.a == 0) = false := by rw [beq_eq_false_iff_ne]; exact a3
    have b7 : (m.a != 0) = true := by rw [bne, b6]; rfl
    clear a2 a3
    have a8 : ¬ (16 : Int) < (nl : Int) := by omega
    have a9 : decide ((16 : Int) < (nl : Int)) = false := decide_eq_false a8
    have C1 := Lib.hid (rregion20_is m.f _ h1)
    have C2 := Lib.hid (rregion20_is m.t _ h2)
    have C3 := Lib.hid (rmay m.d _ h4)
    clear h1 h2 h4
    go_enter Try.func64, Try.ntmps64
    go_wp2_with (go_at_call 72; (first | (with_reducible refine (C1.out _).mono ?_) | (with_reducible refine (C2.out _).mono ?_)); rintro r w1 ⟨rfl, rfl⟩)
    have T0 : Trk w _ [(w.heap.size, 48, mcA ⟨m.k, m.f, m.t, m.d, .slice A nl c, m.n, m.a⟩)] := (Trk.nil w).push (t := 48) (cs := mcA ⟨m.k, m.f, m.t, m.d, .slice A nl c, m.n, m.a⟩) rfl
    refine (C3.out _).mono ?_
    rintro r w2 ⟨rfl, hb2⟩
    have T1 := T0.call hb2
    clear T0 hb2
    obtain ⟨q0, -, -⟩ := T1.rules
    obtain ⟨l0, -⟩ := T1.lts
    go_wp2_with fail
    go_ret
    exact ⟨by rw [HR.out]; rfl, T1.below⟩
  · have HR := Lib.hid hR
    clear hR
    have a6 : (m.n == 0) = true := by rw [a2]; rfl
    have a7 : (m.n != 0) = false := by rw [a2]; rfl
    have b6 : (m.a == 0) = true := by rw [a3]; rfl
    have b7 : (m.a != 0) = false := by rw [a3]; rfl
    clear a2 a3
    have a8 : ¬ (16 : Int) < (m.l.length : Int) := by omega
    have a9 : decide ((16 : Int) < (m.l.length : Int)) = false := decide_eq_false a8
    have C1 := Lib.hid (rregion20_is m.f _ h1)
    have C2 := Lib.hid (rregion20_is m.t _ h2)
    have C3 := Lib.hid (rmay m.d _ h4)
    clear h1 h2 h4
    go_enter Try.func64, Try.ntmps64
    go_wp2_with (go_at_call 72; (first | (with_reducible refine (C1.out _).mono ?_) | (with_reducible refine (C2.out _).mono ?_)); rintro r w1 ⟨rfl, rfl⟩)
    have T0 : Trk w _ [(w.heap.size, 48, mcA ⟨m.k, m.f, m.t, m.d, .slice A m.l.length c, m.n, m.a⟩)] := (Trk.nil w).push (t := 48) (cs := mcA ⟨m.k, m.f, m.t, m.d, .slice A m.l.length c, m.n, m.a⟩) rfl
    refine (C3.out _).mono ?_
    rintro r w2 ⟨rfl, hb2⟩
    have T1 := T0.call hb2
    clear T0 hb2
    obtain ⟨q0, -, -⟩ := T1.rules
    obtain ⟨l0, -⟩ := T1.lts
    go_wp2_with fail
    go_loopw [3] (fun i wr => ∃ k : Nat, k ≤ m.l.length ∧ i = .int .i64 k ∧ (∀ e ∈ m.l.take k, emayB e = true) ∧ Trk w wr [(w.heap.size, 48, mcA ⟨m.k, m.f, m.t, m.d, .slice A m.l.length c, m.n, m.a⟩)]) (fun i _ => m.l.length - (intOf i).toNat)
    case atStart => exact ⟨0, by omega, rfl, fun e he => by simp at he, T1⟩
    case round =>
      clear T1 q0 l0
      obtain ⟨k, hk, rfl, hmay, T⟩ := hrel
      have HM := Lib.hid hmay
      clear hmay
      obtain ⟨q0, -, -⟩ := T.rules
      obtain ⟨l0, -⟩ := T.lts
      by_cases hlt : k < m.l.length
      · obtain ⟨x, hx⟩ : ∃ x, m.l[k]? = some x := ⟨m.l[k], List.getElem?_eq_getElem hlt⟩
        have okx := OK.out x (List.mem_of_getElem? hx)
        obtain ⟨b1, o1, hA, hb1, x0, x1, x2, x3, x4, x5, x6, x7, x8, x9, x10, x11, x12, x13⟩ := ERows.at_ (HL.out.below T.below) hx
        subst hA
        have hb2 : b1 < wr.heap.size := Nat.lt_of_lt_of_le hb1 T.below.size
        have i1 : (0 : Int) ≤ (k : Int) := by omega
        have i2 : (k : Int) < (m.l.length : Int) := by omega
        obtain ⟨y, hy⟩ : ∃ y, emayB x = y := ⟨_, rfl⟩
        have C4 := Lib.hid (rmay8' x okx y hy)
        have HX := Lib.hid hx
        have HY := Lib.hid hy
        clear hx hy
        rcases (show y = false ∨ y = true from by cases y <;> simp) with rfl | rfl
        · go_wp2_with fail
          refine (C4.out _).mono ?_
          rintro r w3 ⟨rfl, hb3⟩
          have T2 := T.call hb3
          clear x0 x1 x2 x3 x4 x5 x6 x7 x8 x9 x10 x11 x12 x13 T q0 l0
          go_wp2_with fail
          go_ret
          refine ⟨?_, T2.below⟩
          have : m.l.all emayB = false := List.all_eq_false.2 ⟨x, List.mem_of_getElem? HX.out, by simp [HY.out]⟩
          rw [HR.out, this]; rfl
        · go_wp2_with fail
          refine (C4.out _).mono ?_
          rintro r w3 ⟨rfl, hb3⟩
          have T2 := T.call hb3
          clear x0 x1 x2 x3 x4 x5 x6 x7 x8 x9 x10 x11 x12 x13 T q0 l0
          go_wp2_with fail
          go_roundw
          case rel =>
            refine ⟨k + 1, by omega, by go_num, fun e he => ?_, T2⟩
            rw [List.take_add_one, HX.out] at he
            rcases List.mem_append.1 he with he | he
            · exact HM.out e he
            · obtain rfl : e = x := by simpa using he
              exact HY.out
          case measure => simp [intOf]; omega
      · obtain rfl : k = m.l.length := by omega
        go_wp2_with fail
        go_ret
        refine ⟨?_, T.below⟩
        have hmay := HM.out
        rw [List.take_of_length_le (Nat.le_refl _)] at hmay
        have : m.l.all emayB = true := List.all_eq_true.2 hmay
        rw [HR.out, this]; rfl
theorem mmay (m : Ms) (o : m.ok) (A : Option Addr) (c : Nat) (w : World) (hL : ERows w w.heap.size A m.l) (hc : m.l.length ≤ c) (hm : c ≤ maxLen) : Calls Try.prog 59 #[.agg (mcA ⟨m.k, m.f, m.t, m.d, .slice A m.l.length c, m.n, m.a⟩)] w fun r w' => r = .returned (.bool (mmayB m)) ∧ Below w.heap.size w w' := by
  cases hE : endsB m with
  | false => rw [mmayB_ends hE]; exact mmay_ends m hE A c w
  | true =>
    by_cases k1 : m.k = 1
    · rw [mmayB_sync hE k1]
      exact mmay_sync m o hE (by rw [k1]; rfl) (by rw [k1]; rfl) (by rw [k1]; rfl) A c w hL hc hm
    · by_cases k2 : m.k = 2
      · rw [mmayB_ask hE k2]
        exact mmay_ask m o hE (by rw [k2]; rfl) (by rw [k2]; rfl) A c w
      · rw [mmayB_kind k1 k2]
        exact mmay_kind m hE (by rw [beq_eq_false_iff_ne]; exact k1) (by rw [beq_eq_false_iff_ne]; exact k2) A c w
theorem mmay' (m : Ms) (o : m.ok) (b : Bool) (h : mmayB m = b) (A : Option Addr) (c : Nat) (w : World) (hL : ERows w w.heap.size A m.l) (hc : m.l.length ≤ c) (hm : c ≤ maxLen) : Calls Try.prog 59 #[.agg (mcA ⟨m.k, m.f, m.t, m.d, .slice A m.l.length c, m.n, m.a⟩)] w fun r w' => r = .returned (.bool b) ∧ Below w.heap.size w w' := by
  subst h; exact mmay m o A c w hL hc hm
theorem rmay20 (m : Ms) (o : m.ok) (A : Option Addr) (c : Nat) (w : World) (hL : ERows w w.heap.size A m.l) (hc : m.l.length ≤ c) (hm : c ≤ maxLen) : Calls Try.prog 64 #[.agg (mcA ⟨m.k, m.f, m.t, m.d, .slice A m.l.length c, m.n, m.a⟩)] w fun r w' => r = .returned (.bool (mmayB m)) ∧ Below w.heap.size w w' := by
  cases hE : endsB m with
  | false => rw [mmayB_ends hE]; exact rmay20_ends m hE A c w
  | true =>
    by_cases k1 : m.k = 1
    · rw [mmayB_sync hE k1]
      exact rmay20_sync m o hE (by rw [k1]; rfl) (by rw [k1]; rfl) (by rw [k1]; rfl) A c w hL hc hm
    · by_cases k2 : m.k = 2
      · rw [mmayB_ask hE k2]
        exact rmay20_ask m o hE (by rw [k2]; rfl) (by rw [k2]; rfl) A c w
      · rw [mmayB_kind k1 k2]
        exact rmay20_kind m hE (by rw [beq_eq_false_iff_ne]; exact k1) (by rw [beq_eq_false_iff_ne]; exact k2) (by rw [bne, beq_eq_false_iff_ne.2 k1]; rfl) A c w
theorem rmay20' (m : Ms) (o : m.ok) (b : Bool) (h : mmayB m = b) (A : Option Addr) (c : Nat) (w : World) (hL : ERows w w.heap.size A m.l) (hc : m.l.length ≤ c) (hm : c ≤ maxLen) : Calls Try.prog 64 #[.agg (mcA ⟨m.k, m.f, m.t, m.d, .slice A m.l.length c, m.n, m.a⟩)] w fun r w' => r = .returned (.bool b) ∧ Below w.heap.size w w' := by
  subst h; exact rmay20 m o A c w hL hc hm
end Go.Proofs.Ytnhjphmcdamoaaa
