/-
  The walk of MessageBack.
-/
import Derived.Test.YtolfnilickfneaaGM
import Derived.Test.YtolfnilickfneaaGB
namespace Go.Proofs.Ytolfnilickfneaa
set_option linter.unusedVariables false
set_option linter.unusedSimpArgs false
open Go.RowKit
set_option maxRecDepth 100000

theorem BytesIs.take {l : List Int} {A : Option Addr} {c n nl : Nat} {w : World} (h : BytesIs l (.slice A nl c) w) (hn : n ≤ nl) : BytesIs (l.take n) (.slice A n c) w := by
  obtain ⟨A', c', e, h1, h2, hr⟩ := h
  injection e with e1 e2 e3
  subst e1 e3 e2
  have hl : (l.take n).length = n := by rw [List.length_take]; omega
  refine ⟨A, c, by rw [hl], by omega, h2, fun hne => ?_⟩
  obtain ⟨b, o, e, hlt, hc⟩ := hr (by rintro rfl; simp at hne)
  exact ⟨b, o, e, hlt, fun i u hu => hc i u (by rw [List.getElem?_take] at hu; split at hu; exact hu; cases hu)⟩
set_option maxHeartbeats 8000000 in
theorem mback_law (m : Ms) (om : m.ok) (A : Option Addr) (c : Nat) (R : Option Addr) (cap : Nat) (l : List Int) (w : World) (hE : ERows w w.heap.size A m.l) (hce : m.l.length ≤ c) (hme : c ≤ maxLen) (hL : BRows w w.heap.size R l) (hc : l.length ≤ cap) (hm : cap ≤ maxLen) (hby : ∀ c ∈ l, 0 ≤ c ∧ c ≤ 255) :
    Calls Try.prog 7 #[.agg (mcA ⟨m.k, m.f, m.t, m.d, .slice A m.l.length c, m.n, m.a⟩), .slice R l.length cap] w fun r w' => r = .returned (.bool true) ∧ Below w.heap.size w w' := by
  have hm1 : cap ≤ 9223372036854775807 := hm
  have hm2 : c ≤ 9223372036854775807 := hme
  by_cases hn : 40 < m.l.length ∨ 4000 < l.length
  · clear hE hL hby om
    generalize m.l.length = nl at *
    rcases hn with hn | hn
    · go_enter Try.func7, Try.ntmps7
      go_wp2_with (go_at_call 39; (refine (works20 _).mono ?_); rintro r w1 ⟨rfl, hb⟩)
      all_goals
        go_ret
        exact ⟨rfl, ((Below.refl _ _).alloc (Nat.le_refl _) _).trans (hb.mono (by simp))⟩
    · go_enter Try.func7, Try.ntmps7
      go_wp2_with (go_at_call 39; (refine (works20 _).mono ?_); rintro r w1 ⟨rfl, hb⟩)
      all_goals
        go_ret
        exact ⟨rfl, ((Below.refl _ _).alloc (Nat.le_refl _) _).trans (hb.mono (by simp))⟩
  have hn1 : m.l.length ≤ 40 := by omega
  have hn2 : l.length ≤ 4000 := by omega
  have H1 := Lib.hid (mget' l (by omega) hby)
  have HTWO := Lib.hid (getM_two l)
  have HOKR := Lib.hid (readM_ok l hby)
  have HBYL := Lib.hid hby
  have HB2 := Lib.hid fun (W : World) (hW : Below w.heap.size w W) => BytesIs.of_rows hL hc hm hW
  have HE := Lib.hid hE
  have OM := Lib.hid om
  have C3 := Lib.hid fun W (hW : Below w.heap.size w W) => mput m om A c W (hE.next hW) hce hme
  have hPl := putM_length_le (m := m)
  have HPR := Lib.hid (putM_range m)
  cases hmb : mmayB m with
  | false =>
    have C1 := Lib.hid fun W (hW : Below w.heap.size w W) => mmay' m om false hmb A c W (hE.next hW) hce hme
    rw [putM_no hmb] at C3
    clear hmb hby hL hn om hE hPl HPR HE OM
    have hx0 := hn1
    generalize m.l.length = nl at *
    go_enter Try.func7, Try.ntmps7
    go_upto_region 3 with fail
    have T1 : Trk w _ [(w.heap.size, 54, mcA ⟨m.k, m.f, m.t, m.d, .slice A nl c, m.n, m.a⟩)] := (Trk.nil w).push (t := 54) (cs := mcA ⟨m.k, m.f, m.t, m.d, .slice A nl c, m.n, m.a⟩) rfl
    generalize w.alloc _ = w1 at T1 ⊢
    obtain ⟨q0, -, -⟩ := T1.rules
    obtain ⟨l0, -⟩ := T1.lts
    go_wp2_with fail
    refine (C3.out w1 T1.below).mono ?_
    rintro r w2 ⟨u2, rfl, own2, hb2⟩
    obtain ⟨A2, c2, hu, hc2, hm2', -⟩ := own_open own2
    have hu : u2 = .slice A2 0 c2 := hu
    subst hu
    have T2 := T1.call hb2
    clear T1 hb2 own2 q0 l0
    obtain ⟨q0, -, -⟩ := T2.rules
    obtain ⟨l0, -⟩ := T2.lts
    go_wp2_with fail
    refine (C1.out w2 T2.below).mono ?_
    rintro r w3 ⟨rfl, hb3⟩
    have T3 := T2.call hb3
    clear T2 hb3 q0 l0
    go_wp2_with fail
    have hbA := HB2.out _ T3.below
    rcases HTWO.out with ⟨y, hy, -⟩ | ⟨y, hy, hp, hyr⟩
    · have h1 := H1.out
      rw [hy] at h1
      refine (h1 R cap _ hbA).mono ?_
      rintro r w10 ⟨u10, rfl, own10, hb10⟩
      simp only at own10 ⊢
      obtain ⟨A10, c10, rfl, -, -, -⟩ := own_open own10
      have T10 := (T3.call hb10).push (t := 54) (cs := mcA ⟨y.k, y.f, y.t, y.d, .slice A10 y.l.length c10, y.n, y.a⟩) rfl
      clear T3 hb10 own10 hbA hy h1 H1 HTWO
      go_wp2_with fail
      refine (works20 _).mono ?_
      rintro r w11 ⟨rfl, hb11⟩
      have T11 := T10.call hb11
      go_wp2_with fail
      go_ret
      exact ⟨rfl, T11.below⟩
    · have h1 := H1.out
      rw [hy] at h1
      refine (h1 R cap _ hbA).mono ?_
      rintro r w10 ⟨u10, rfl, own10, hb10⟩
      simp only at own10 ⊢
      obtain ⟨A10, c10, rfl, hc10, hm10, -⟩ := own_open own10
      have T10 := (T3.call hb10).push (t := 54) (cs := mcA ⟨y.k, y.f, y.t, y.d, .slice A10 y.l.length c10, y.n, y.a⟩) rfl
      have own11 := own10.alloc (.cells (mcA ⟨y.k, y.f, y.t, y.d, .slice A10 y.l.length c10, y.n, y.a⟩) 54)
      have hrows : ERows _ _ A10 y.l := Rd.of_own own11
      have okY : y.ok := by rw [hyr]; exact HOKR.out
      have CPY := Lib.hid fun W hW => (show Calls Try.prog 44 #[.agg (mcA ⟨y.k, y.f, y.t, y.d, .slice A10 y.l.length c10, y.n, y.a⟩)] W (GivesB l W) from by
        have := mput y okY A10 c10 W (hrows.next hW) hc10 hm10
        rw [hp] at this
        exact this)
      have hbB := HB2.out _ T10.below
      clear T3 hb10 own10 hbA hy h1 H1 HTWO hp hyr okY own11 hrows
      generalize hg10 : w10.heap.size = g10 at T10
      go_upto_region 15 with fail
      clear hg10
      generalize w10.alloc _ = w11 at T10 CPY hbB ⊢
      generalize y.l.length = ny at *
      refine lw_region [.is (.agg (mcA ⟨y.k, y.f, y.t, y.d, .slice A10 ny c10, y.n, y.a⟩)), .bytes l, .is (.string (strOfNums l)), .is (.slice R l.length cap), .is (.string (strOfNums l)), .is (.bool true), .is (.bool true), .is (.bool true), .is (.bool true), .is (.bool true)] (by kernel_rfl) (by kernel_rfl) ?_
      repeat
        first
          | refine lw_loadm T10 rfl _ rfl _ _ rfl rfl (by simp) ?_
          | refine lw_move rfl _ rfl _ rfl rfl ?_
          | refine lw_assign rfl _ rfl _ rfl rfl ?_
          | refine lw_pickT rfl _ _ _ rfl rfl _ rfl rfl ?_
          | refine lw_convR rfl _ rfl 1 _ rfl (by rfl) (by repeat (first | exact Or.inl ⟨rfl, rfl⟩ | apply Or.inr)) _ rfl rfl ?_
          | refine lw_conv rfl _ rfl _ rfl l hbB rfl ?_
          | ((refine lw_call_rel rfl 44 #[.agg (mcA ⟨y.k, y.f, y.t, y.d, .slice A10 ny c10, y.n, y.a⟩)] _ _ rfl ?_ (fun w hb => gives_rel (CPY.out w hb)) ?_); (· intro w; simp [go_sem] <;> rfl); intro z)
          | ((refine lw_call rfl 39 #[] _ rfl ?_ (fun w _ => works20 w) ?_); (· intro w; simp [go_sem] <;> rfl))
          | ((refine lw_bin rfl _ _ _ _ _ rfl _ _ rfl rfl _ rfl ?_ ?_); (· intro ρ w h1 h2; simp [execOp, h1, h2, go_sem]))
        simp only [Act.put, List.setIfInBounds_toArray, List.set_cons_succ, List.set_cons_zero]
      intro w12 hb12
      have T12 := T10.call hb12
      go_wp2_with fail
      go_ret
      exact ⟨rfl, T12.below⟩
  | true =>
    have C1 := Lib.hid fun W (hW : Below w.heap.size w W) => mmay' m om true hmb A c W (hE.next hW) hce hme
    have hpos := putM_pos hmb
    have h1 := mget' (putM m) (by omega) (putM_range m)
    rw [getM_putM om hmb] at h1
    have hcl : ((putM m).take ((putM m).length - 1)).length = (putM m).length - 1 := by rw [List.length_take]; omega
    have h2 := mget' ((putM m).take ((putM m).length - 1)) (by omega) (fun x hx => putM_range m x (List.mem_of_mem_take hx))
    rw [getM_cut hmb, hcl] at h2
    have h3 := mget' (putM m ++ [0]) (by rw [List.length_append]; have : ([0] : List Int).length = 1 := rfl; omega) (fun x hx => by
      rcases List.mem_append.1 hx with hx | hx
      · exact putM_range m x hx
      · obtain rfl : x = 0 := by simpa using hx
        decide)
    rw [getM_more hmb] at h3
    generalize putM m = P at C3 h1 h2 h3 hpos hPl HPR hcl
    obtain ⟨nP, hnP⟩ : ∃ n, n = P.length := ⟨_, rfl⟩
    rw [← hnP] at h1 h2
    have HG1 := Lib.hid h1
    have HG2 := Lib.hid h2
    have HG3 := Lib.hid h3
    have HNP := Lib.hid hnP
    rw [← hnP] at hpos hPl
    clear h1 h2 h3 hmb hby hL hn om hE hcl hnP
    have hx0 := hn1
    have p1 : (0 : Int) < (nP : Int) := by omega
    have p3 : 0 < nP := by omega
    have p4 : decide (0 < nP) = true := decide_eq_true p3
    have p2 : ((nP : Int) - 1).toNat = nP - 1 := by omega
    go_enter Try.func7, Try.ntmps7
    go_upto_region 3 with fail
    have T1 : Trk w _ [(w.heap.size, 54, mcA ⟨m.k, m.f, m.t, m.d, .slice A m.l.length c, m.n, m.a⟩)] := (Trk.nil w).push (t := 54) (cs := mcA ⟨m.k, m.f, m.t, m.d, .slice A m.l.length c, m.n, m.a⟩) rfl
    generalize w.alloc _ = w1 at T1 ⊢
    obtain ⟨q0, -, -⟩ := T1.rules
    obtain ⟨l0, -⟩ := T1.lts
    go_wp2_with fail
    refine (C3.out w1 T1.below).mono ?_
    rintro r w2 ⟨u2, rfl, own2, hb2⟩
    have hbs2 := BytesIs.of_own own2
    obtain ⟨A2, c2, hu, hc2, hm2', -⟩ := own_open own2
    rw [← HNP.out] at hu hc2
    subst hu
    have T2 := T1.call hb2
    have i2 : (nP : Int) ≤ (c2 : Int) := by omega
    have i3 : c2 ≤ 9223372036854775807 := hm2'
    clear T1 hb2 own2 q0 l0
    obtain ⟨q0, -, -⟩ := T2.rules
    obtain ⟨l0, -⟩ := T2.lts
    go_wp2_with fail
    refine (C1.out w2 T2.below).mono ?_
    rintro r w3 ⟨rfl, hb3⟩
    have T3 := T2.call hb3
    have hbs3 := hbs2.keep _ _ _ _ hb3
    clear T2 hb3 q0 l0 hbs2 C1
    go_wp2_with fail
    refine (HG1.out A2 c2 w3 hbs3).mono ?_
    rintro r w4 ⟨u4, rfl, own4, hb4⟩
    simp only at own4 ⊢
    obtain ⟨A4, c4, rfl, hc4, hm4, -⟩ := own_open own4
    have hbs4 := hbs3.keep _ _ _ _ hb4
    have T4 := (T3.call hb4).push (t := 54) (cs := mcA ⟨m.k, m.f, m.t, m.d, .slice A4 m.l.length c4, m.n, m.a⟩) rfl
    have own5 := own4.alloc (.cells (mcA ⟨m.k, m.f, m.t, m.d, .slice A4 m.l.length c4, m.n, m.a⟩) 54)
    have hbs5 := hbs4.keep _ _ _ _ ((Below.refl _ _).alloc (Nat.le_refl _) (.cells (mcA ⟨m.k, m.f, m.t, m.d, .slice A4 m.l.length c4, m.n, m.a⟩) 54))
    clear T3 hb4 hbs3 hbs4 own4 HG1
    go_wp2_with fail
    have hbc := hbs5.take (n := nP - 1) (by omega)
    refine (HG2.out A2 c2 _ hbc).mono ?_
    rintro r w5 ⟨u5, rfl, own6, hb5⟩
    simp only at own6 ⊢
    obtain ⟨A5, c5, hu5, -, -, -⟩ := own_open own6
    subst hu5
    have T5 := (T4.call hb5).push (t := 54) (cs := mcA ⟨Ms.zero.k, Ms.zero.f, Ms.zero.t, Ms.zero.d, .slice A5 Ms.zero.l.length c5, Ms.zero.n, Ms.zero.a⟩) rfl
    have own7 := (ownsRow_below own5 hb5).alloc (.cells (mcA ⟨Ms.zero.k, Ms.zero.f, Ms.zero.t, Ms.zero.d, .slice A5 Ms.zero.l.length c5, Ms.zero.n, Ms.zero.a⟩) 54)
    have hbs7 := (hbs5.keep _ _ _ _ hb5).keep _ _ _ _ ((Below.refl _ _).alloc (Nat.le_refl _) (.cells (mcA ⟨Ms.zero.k, Ms.zero.f, Ms.zero.t, Ms.zero.d, .slice A5 Ms.zero.l.length c5, Ms.zero.n, Ms.zero.a⟩) 54))
    clear T4 hb5 own5 hbs5 hbc own6 HG2
    generalize hg5 : w5.heap.size = g5 at T5
    generalize hg4 : w4.heap.size = g4 at T5
    go_upto_region 9 with fail
    clear hg5 hg4
    generalize w5.alloc _ = w6 at T5 own7 hbs7 ⊢
    have hR7 : BRows w6 w6.heap.size A2 P := by
      obtain ⟨A', c', e, -, -, hr⟩ := hbs7
      injection e with e1 _ _
      rw [e1]; exact hr
    have hPL : P.length = nP := HNP.out.symm
    have HPL := Lib.hid hPL
    clear hPL hbs7
    go_wp2_with (first
      | (at_builtin; refine append_u8q _ rfl (.tmp 50) (.tmp 51) rfl w6.heap.size _ [] P nP HPL.out rfl ?h1 A2 c2 w6.heap.size rfl ?h2 ?h3 ?h4 ?_; (case h1 => exact World.ownsRow_made w6 #[] 0 (Nat.le_refl _) (by decide) rfl); (case h2 => exact hR7.below ((Below.refl _ _).alloc (Nat.le_refl _) _)); (case h3 => have := HPL.out; simp; omega); (case h4 => simp); intro v1 wa ownB hba _; rw [List.nil_append] at ownB; have hwa := ((Below.refl w6.heap.size w6).alloc (Nat.le_refl _) (.cells #[] 5)).trans hba; have hza := hwa.size)
      | (at_builtin; refine append_u8 _ rfl (.tmp 52) (.tmp 53) rfl w6.heap.size _ P _ rfl (ownB.alloc _) wa.heap.size rfl (Blk.new _ _ _) ?h5 ?h6 ?_; (case h5 => have := HPL.out; omega); (case h6 => simp; omega); intro v2 wb ownB2 hbb2; have hwb := (hwa.alloc (Nat.le_trans (Nat.le_refl _) hza) (.cells #[.int .u8 0] 5)).trans hbb2))
    have hbs8 := BytesIs.of_own ownB2
    obtain ⟨A8, c8, rfl, -, -, -⟩ := own_open ownB2
    have T6 := T5.call hwb
    have own8 := ownsRow_below own7 hwb
    clear T5 own7 hwb ownB2 ownB hR7
    refine (HG3.out A8 c8 _ hbs8).mono ?_
    rintro r w7 ⟨u7, rfl, own9, hb7⟩
    simp only at own9 ⊢
    obtain ⟨A9, c9, hu9, -, -, -⟩ := own_open own9
    subst hu9
    have T7 := (T6.call hb7).push (t := 54) (cs := mcA ⟨Ms.zero.k, Ms.zero.f, Ms.zero.t, Ms.zero.d, .slice A9 Ms.zero.l.length c9, Ms.zero.n, Ms.zero.a⟩) rfl
    have own10 := (ownsRow_below own8 hb7).alloc (.cells (mcA ⟨Ms.zero.k, Ms.zero.f, Ms.zero.t, Ms.zero.d, .slice A9 Ms.zero.l.length c9, Ms.zero.n, Ms.zero.a⟩) 54)
    clear T6 hb7 own8 own9 HG3 hbs8
    generalize hg7 : w7.heap.size = g7 at T7
    go_upto_region 10 with fail
    clear hg7
    generalize w7.alloc _ = w8 at T7 own10 ⊢
    have hrows4 : ERows w8 w8.heap.size A4 m.l := Rd.of_own own10
    have cs := rsame20 m m A4 A c4 c w8 hrows4 ((HE.out.below T7.below).mono T7.below.size) hc4 hm4 hce hme
    rw [show decide (m = m) = true from by simp] at cs
    have CS := Lib.hid cs
    clear cs own10 hrows4
    obtain ⟨q3, -, q2, -, q1, -, q0, -, -⟩ := T7.rules
    obtain ⟨l3, l2, l1, l0, -⟩ := T7.lts
    go_wp2_with fail
    refine CS.out.mono ?_
    rintro r w9 ⟨rfl, hb9⟩
    have T9 := T7.call hb9
    clear T7 hb9 q0 q1 q2 q3 l0 l1 l2 l3 CS HE C3
    go_wp2_with fail
    have hbA := HB2.out _ T9.below
    rcases HTWO.out with ⟨y, hy, -⟩ | ⟨y, hy, hp, hyr⟩
    · have h1 := H1.out
      rw [hy] at h1
      refine (h1 R cap _ hbA).mono ?_
      rintro r w10 ⟨u10, rfl, own10, hb10⟩
      simp only at own10 ⊢
      obtain ⟨A10, c10, rfl, -, -, -⟩ := own_open own10
      have T10 := (T9.call hb10).push (t := 54) (cs := mcA ⟨y.k, y.f, y.t, y.d, .slice A10 y.l.length c10, y.n, y.a⟩) rfl
      clear T9 hb10 own10 hbA hy h1 H1 HTWO
      go_wp2_with fail
      refine (works20 _).mono ?_
      rintro r w11 ⟨rfl, hb11⟩
      have T11 := T10.call hb11
      go_wp2_with fail
      go_ret
      exact ⟨rfl, T11.below⟩
    · have h1 := H1.out
      rw [hy] at h1
      refine (h1 R cap _ hbA).mono ?_
      rintro r w10 ⟨u10, rfl, own10, hb10⟩
      simp only at own10 ⊢
      obtain ⟨A10, c10, rfl, hc10, hm10, -⟩ := own_open own10
      have T10 := (T9.call hb10).push (t := 54) (cs := mcA ⟨y.k, y.f, y.t, y.d, .slice A10 y.l.length c10, y.n, y.a⟩) rfl
      have own11 := own10.alloc (.cells (mcA ⟨y.k, y.f, y.t, y.d, .slice A10 y.l.length c10, y.n, y.a⟩) 54)
      have hrows : ERows _ _ A10 y.l := Rd.of_own own11
      have okY : y.ok := by rw [hyr]; exact HOKR.out
      have CPY := Lib.hid fun W hW => (show Calls Try.prog 44 #[.agg (mcA ⟨y.k, y.f, y.t, y.d, .slice A10 y.l.length c10, y.n, y.a⟩)] W (GivesB l W) from by
        have := mput y okY A10 c10 W (hrows.next hW) hc10 hm10
        rw [hp] at this
        exact this)
      have hbB := HB2.out _ T10.below
      clear T9 hb10 own10 hbA hy h1 H1 HTWO hp hyr okY own11 hrows
      generalize hg10 : w10.heap.size = g10 at T10
      go_upto_region 15 with fail
      clear hg10
      generalize w10.alloc _ = w11 at T10 CPY hbB ⊢
      generalize y.l.length = ny at *
      refine lw_region [.is (.agg (mcA ⟨y.k, y.f, y.t, y.d, .slice A10 ny c10, y.n, y.a⟩)), .bytes l, .is (.string (strOfNums l)), .is (.slice R l.length cap), .is (.string (strOfNums l)), .is (.bool true), .is (.bool true), .is (.bool true), .is (.bool true), .is (.bool true)] (by kernel_rfl) (by kernel_rfl) ?_
      repeat
        first
          | refine lw_loadm T10 rfl _ rfl _ _ rfl rfl (by simp) ?_
          | refine lw_move rfl _ rfl _ rfl rfl ?_
          | refine lw_assign rfl _ rfl _ rfl rfl ?_
          | refine lw_pickT rfl _ _ _ rfl rfl _ rfl rfl ?_
          | refine lw_convR rfl _ rfl 1 _ rfl (by rfl) (by repeat (first | exact Or.inl ⟨rfl, rfl⟩ | apply Or.inr)) _ rfl rfl ?_
          | refine lw_conv rfl _ rfl _ rfl l hbB rfl ?_
          | ((refine lw_call_rel rfl 44 #[.agg (mcA ⟨y.k, y.f, y.t, y.d, .slice A10 ny c10, y.n, y.a⟩)] _ _ rfl ?_ (fun w hb => gives_rel (CPY.out w hb)) ?_); (· intro w; simp [go_sem] <;> rfl); intro z)
          | ((refine lw_call rfl 39 #[] _ rfl ?_ (fun w _ => works20 w) ?_); (· intro w; simp [go_sem] <;> rfl))
          | ((refine lw_bin rfl _ _ _ _ _ rfl _ _ rfl rfl _ rfl ?_ ?_); (· intro ρ w h1 h2; simp [execOp, h1, h2, go_sem]))
        simp only [Act.put, List.setIfInBounds_toArray, List.set_cons_succ, List.set_cons_zero]
      intro w12 hb12
      have T12 := T10.call hb12
      go_wp2_with fail
      go_ret
      exact ⟨rfl, T12.below⟩
end Go.Proofs.Ytolfnilickfneaa
