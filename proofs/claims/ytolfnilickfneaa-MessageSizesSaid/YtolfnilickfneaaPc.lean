/-
  The walk of MessageSizes.
-/
import Derived.Test.YtolfnilickfneaaGM
import Derived.Test.YtolfnilickfneaaGB
import Derived.Test.YtolfnilickfneaaGA
import Derived.Laws.OwnMore
namespace Go.Proofs.Ytolfnilickfneaa
set_option linter.unusedVariables false
set_option linter.unusedSimpArgs false
open Go.RowKit
set_option maxRecDepth 100000

set_option maxHeartbeats 4000000 in
theorem msizes_no (m : Ms) (om : m.ok) (A : Option Addr) (c : Nat) (n y : Int) (w : World) (hE : ERows w w.heap.size A m.l) (hce : m.l.length ≤ c) (hme : c ≤ maxLen) (h : 40 < m.l.length ∨ mmayB m = false) :
    Calls Try.prog 8 #[.agg (mcA ⟨m.k, m.f, m.t, m.d, .slice A m.l.length c, m.n, m.a⟩), .int .u16 n, .int .u8 y] w fun r w' => r = .returned (.bool true) ∧ Below w.heap.size w w' := by
  have hm2 : c ≤ 9223372036854775807 := hme
  by_cases hn : 40 < m.l.length
  · clear hE om h
    generalize m.l.length = nl at *
    go_enter Try.func8, Try.ntmps8
    go_wp2_with (go_at_call 39; (refine (works20 _).mono ?_); rintro r w1 ⟨rfl, hb⟩)
    all_goals
      go_ret
      exact ⟨rfl, ((Below.refl _ _).alloc (Nat.le_refl _) _).trans (hb.mono (by simp))⟩
  have hmb : mmayB m = false := h.resolve_left hn
  have hn1 : m.l.length ≤ 40 := by omega
  have C3 := Lib.hid fun W (hW : Below w.heap.size w W) => mput m om A c W (hE.next hW) hce hme
  have C1 := Lib.hid fun W (hW : Below w.heap.size w W) => mmay' m om false hmb A c W (hE.next hW) hce hme
  rw [putM_no hmb] at C3
  clear hmb hn om hE h
  have hx0 := hn1
  generalize m.l.length = nl at *
  go_enter Try.func8, Try.ntmps8
  go_upto_region 3 with fail
  have T1 : Trk w _ [(w.heap.size, 54, mcA ⟨m.k, m.f, m.t, m.d, .slice A nl c, m.n, m.a⟩)] := (Trk.nil w).push (t := 54) (cs := mcA ⟨m.k, m.f, m.t, m.d, .slice A nl c, m.n, m.a⟩) rfl
  generalize w.alloc _ = w1 at T1 ⊢
  obtain ⟨q0, -, -⟩ := T1.rules
  obtain ⟨l0, -⟩ := T1.lts
  go_wp2_with fail
  refine (C3.out w1 T1.below).mono ?_
  rintro r w2 ⟨u2, rfl, own2, hb2⟩
  obtain ⟨A2, c2, hu, hc2, hm2', -⟩ := own_open own2
  have hu : u2 = .slice A2 0 c2 := hu
  subst hu
  have T2 := T1.call hb2
  clear T1 hb2 own2 q0 l0
  obtain ⟨q0, -, -⟩ := T2.rules
  obtain ⟨l0, -⟩ := T2.lts
  go_wp2_with fail
  refine (C1.out w2 T2.below).mono ?_
  rintro r w3 ⟨rfl, hb3⟩
  have T3 := T2.call hb3
  clear T2 hb3 q0 l0
  go_wp2_with fail
  refine (works20 _).mono ?_
  rintro r w4 ⟨rfl, hb4⟩
  have T4 := T3.call hb4
  go_wp2_with fail
  go_ret
  exact ⟨rfl, T4.below⟩
set_option maxHeartbeats 8000000 in
theorem msizes_yes (m : Ms) (om : m.ok) (A : Option Addr) (c : Nat) (n y : Int) (n0 : 0 ≤ n) (n1 : n ≤ 65535) (y0 : 0 ≤ y) (y1 : y ≤ 255) (w : World) (hE : ERows w w.heap.size A m.l) (hce : m.l.length ≤ c) (hme : c ≤ maxLen) (hn1 : m.l.length ≤ 40) (hmb : mmayB m = true) :
    Calls Try.prog 8 #[.agg (mcA ⟨m.k, m.f, m.t, m.d, .slice A m.l.length c, m.n, m.a⟩), .int .u16 n, .int .u8 y] w fun r w' => r = .returned (.bool true) ∧ Below w.heap.size w w' := by
  have hm2 : c ≤ 9223372036854775807 := hme
  have C3 := Lib.hid fun W (hW : Below w.heap.size w W) => mput m om A c W (hE.next hW) hce hme
  have C1 := Lib.hid fun W (hW : Below w.heap.size w W) => mmay' m om true hmb A c W (hE.next hW) hce hme
  have hpos := putM_pos hmb
  have hPl := putM_length_le (m := m)
  have hPlen := putM_length hmb
  have hkk := (mayM_of hmb).k
  have hself := getM_putM om hmb
  obtain ⟨nP, hnP⟩ : ∃ q, q = (putM m).length := ⟨_, rfl⟩
  rw [← hnP] at hpos hPl hPlen
  obtain ⟨k, hk⟩ : ∃ k : Nat, Int.tmod n (nP : Int) = k := ⟨(Int.tmod n nP).toNat, by have := Int.emod_nonneg n (show (nP : Int) ≠ 0 by omega); rw [Int.tmod_eq_emod_of_nonneg n0]; omega⟩
  have hk91 : k < nP := by
    rw [Int.tmod_eq_emod_of_nonneg n0] at hk
    have := Int.emod_lt_of_pos n (show (0 : Int) < nP by omega)
    omega
  obtain ⟨f1, f2, f3⟩ := turnL_facts (putM m) k y (by omega) (putM_range m) y0 y1
  have hgk : (putM m)[k]? = some ((putM m).getD k 0) := by rw [List.getD_eq_getElem?_getD, List.getElem?_eq_getElem (by omega)]; rfl
  obtain ⟨x, hx⟩ : ∃ x, x = (putM m).getD k 0 := ⟨_, rfl⟩
  have hset : (putM m).set k (bits .xor .u8 x y) = turnL (putM m) k y := by rw [hx]; rfl
  rw [← hx] at hgk
  have h1 := mget' (turnL (putM m) k y) (by omega) f2
  have htwo := getM_two (turnL (putM m) k y)
  have hokr := readM_ok (turnL (putM m) k y) f2
  rw [← hnP] at f1
  rw [f1] at h1
  have hy5 : ∀ z, getM (turnL (putM m) k y) = (z, 5) → y ≠ 0 := fun z hz h0 => by
    rw [f3.2 h0, hself] at hz
    cases hz
  generalize turnL (putM m) k y = M2 at f1 f2 f3 hset h1 htwo hokr hy5
  generalize putM m = P at C3 hnP hgk hset
  have HNP := Lib.hid hnP
  have HGK := Lib.hid hgk
  have HSET := Lib.hid hset
  have H1 := Lib.hid h1
  have HTWO := Lib.hid htwo
  have HOKR := Lib.hid hokr
  have HF1 := Lib.hid f1
  have HY5 := Lib.hid hy5
  have HE := Lib.hid hE
  have HK := Lib.hid hk
  have hw : (m.k = 1 ∧ nP = 51 + 91 * m.l.length) ∨ (m.k = 2 ∧ nP = 67) := by
    rcases hkk with ⟨k1, _⟩ | ⟨k2, _⟩
    · rw [if_pos k1] at hPlen; exact .inl ⟨k1, hPlen⟩
    · rw [if_neg (by omega)] at hPlen; exact .inr ⟨k2, hPlen⟩
  have HW := Lib.hid hw
  clear hnP hgk hset h1 htwo hokr f1 f2 f3 hself hx hy5 hkk hPlen hmb om hE hk hw
  go_enter Try.func8, Try.ntmps8
  go_upto_region 3 with fail
  have T1 : Trk w _ [(w.heap.size, 54, mcA ⟨m.k, m.f, m.t, m.d, .slice A m.l.length c, m.n, m.a⟩)] := (Trk.nil w).push (t := 54) (cs := mcA ⟨m.k, m.f, m.t, m.d, .slice A m.l.length c, m.n, m.a⟩) rfl
  generalize w.alloc _ = w1 at T1 ⊢
  obtain ⟨q0, -, -⟩ := T1.rules
  obtain ⟨l0, -⟩ := T1.lts
  go_wp2_with fail
  refine (C3.out w1 T1.below).mono ?_
  rintro r w2 ⟨u2, rfl, own2, hb2⟩
  have hbs2 := BytesIs.of_own own2
  obtain ⟨A2, c2, hu, hc2, hm2', -⟩ := own_open own2
  rw [← HNP.out] at hu hc2
  subst hu
  have T2 := T1.call hb2
  have i3 : c2 ≤ 9223372036854775807 := hm2'
  clear T1 hb2 own2 q0 l0
  obtain ⟨q0, -, -⟩ := T2.rules
  obtain ⟨l0, -⟩ := T2.lts
  go_wp2_with fail
  refine (C1.out w2 T2.below).mono ?_
  rintro r w3 ⟨rfl, hb3⟩
  have T3 := T2.call hb3
  have hbs3 := hbs2.keep _ _ _ _ hb3
  clear T2 hb3 q0 l0 hbs2 C1
  obtain ⟨q0, -, -⟩ := T3.rules
  obtain ⟨l0, -⟩ := T3.lts
  rcases HW.out with ⟨k1, hl⟩ | ⟨k2, hl⟩
  · have e1 : (m.k == 1) = true := by rw [k1]; rfl
    have e2 : ((nP : Int) != 51 + 91 * (m.l.length : Int)) = false := by rw [bne_eq_false_iff_eq]; omega
    have hx0 := hn1
    clear k1 hl HW
    go_upto_region 11 with fail
    clear q0 l0
    have hR3 : BRows w3 w3.heap.size A2 P := by
      obtain ⟨A', c', e, -, -, hr⟩ := hbs3
      injection e with e1 _ _
      rw [e1]; exact hr
    clear hbs3
    go_wp2_with (at_builtin; refine append_u8q _ rfl (.tmp 40) (.tmp 41) rfl w3.heap.size _ [] P nP HNP.out.symm rfl ?h1 A2 c2 w3.heap.size rfl ?h2 ?h3 ?h4 ?_; (case h1 => exact World.ownsRow_made w3 #[] 0 (Nat.le_refl _) (by decide) rfl); (case h2 => exact hR3.below ((Below.refl _ _).alloc (Nat.le_refl _) _)); (case h3 => have := HNP.out; simp; omega); (case h4 => simp); intro v1 wa ownB hba _; rw [List.nil_append] at ownB; have hwa := ((Below.refl w3.heap.size w3).alloc (Nat.le_refl _) (.cells #[] 5)).trans hba)
    have T4 := T3.call hwa
    have hz3 := T3.below.size
    have hlt3 := T3.lt
    obtain ⟨g, c9, hu, hgB, hc9, hm9⟩ : ∃ g c, v1 = .slice (some ⟨g, 0, none⟩) nP c ∧ w3.heap.size ≤ g ∧ nP ≤ c ∧ c ≤ maxLen := by
      rcases ownB.2 with ⟨_, h0⟩ | ⟨g, cap, cur, hv, hg, _, hnc, hcm, _⟩
      · have := HNP.out; omega
      · rw [← HNP.out] at hv hnc
        exact ⟨g, cap, hv, hg, hnc, hcm⟩
    subst hu
    rw [← HNP.out] at ownB
    have hgl := (ownB.lt g rfl).2
    have hcW : ∀ W, Below wa.heap.size wa W → W.cell? ⟨g, k, none⟩ = some (.int .u8 x) := fun W hW => by
      have := ownB.cells (g := g) rfl k (.int .u8 x) (by unfold bcells; rw [List.getElem?_map, HGK.out]; rfl)
      rw [addr_add, Nat.zero_add] at this
      exact (hW.cell (p := ⟨g, k, none⟩) hgl).trans this
    have HCW := Lib.hid hcW
    have z1 : IntKind.i64.wrap n = n := IntWalk.i64_in _ (by omega)
    have z2 : IntKind.i64.wrap (k : Int) = (k : Int) := IntWalk.i64_in _ (by omega)
    have z3 : ¬ (nP : Int) = 0 := by omega
    have z4 : ¬ nP = 0 := by omega
    have z5 : ¬ (k : Int) < 0 := by omega
    have z6 : ¬ (nP : Int) ≤ (k : Int) := by omega
    have z7 : (k : Int) < (nP : Int) := by omega
    have z8 : ¬ nP ≤ k := by omega
    have z9 : (0 : Int) ≤ (k : Int) := by omega
    clear hba hwa hR3 hcW T3
    refine wp_region_post 17 [.is (.slice (some ⟨g, 0, none⟩) nP c9), .is (.int .u16 n), .is (.int .i64 n), .is (.slice A2 nP c2), .is (.int .i64 nP), .is (.int .i64 k), .is (.slice (some ⟨g, 0, none⟩) nP c9), .is (.int .u16 n), .is (.int .i64 n), .is (.slice A2 nP c2), .is (.int .i64 nP), .is (.int .i64 k), .is (.pointer (some ⟨g, k, none⟩)), .is (.int .u8 x), .is (.int .u8 y), .is (.int .u8 (bits .xor .u8 x y)), .is (.pointer (some ⟨g, k, none⟩))] (by kernel_rfl) (by simp) (by kernel_rfl) (by kernel_rfl) (by kernel_rfl) (by kernel_rfl) ?_
    simp only [List.take_succ_cons, List.take_zero, List.drop_succ_cons, List.drop_zero]
    repeat
      first
        | refine lw_move rfl _ rfl _ rfl rfl ?_
        | ((refine lw_val rfl _ rfl (fun W hb' => ?_) ?_); (· have kc := HCW.out W hb'; have kl : g < W.heap.size := (by have := hb'.size; omega); have hk := HK.out; simp [execOp, go_sem, kc, kl, hk, z1, z2, z3, z4, z5, z6, z7, z8, z9]; done))
      simp only [Act.put, List.setIfInBounds_toArray, List.set_cons_succ, List.set_cons_zero]
    intro w5 hb5 hFz
    have T5 := T4.call hb5
    have own5 := ownsRow_below ownB hb5
    have hcell := HCW.out w5 hb5
    have hgl5 : g < w5.heap.size := by have := hb5.size; omega
    have hfr : w5.frozen? ⟨g, k, none⟩ = false := by
      rcases own5.2 with ⟨h', _⟩ | ⟨g', cap', cur, h', _, hg', _⟩
      · cases h'
      · obtain rfl : g = g' := by injection h' with h1; injection h1 with h1; injection h1
        exact Blk.frozen hg' k
    obtain ⟨own6, -⟩ := own5.stored k (.int .u8 (bits .xor .u8 x y))
    have T6 : Trk w (w5.setCell ⟨g, k, none⟩ (.int .u8 (bits .xor .u8 x y))) [(w.heap.size, 54, mcA ⟨m.k, m.f, m.t, m.d, .slice A m.l.length c, m.n, m.a⟩)] := T5.far (p := ⟨g, k, none⟩) (by show _ ≤ g; omega) ⟨by show _ ≠ g; omega, trivial⟩ _
    have hzz : (bcells P).set k (.int .u8 (bits .xor .u8 x y)) = bcells M2 := by rw [← HSET.out]; unfold bcells; rw [List.map_set]
    rw [hzz] at own6
    clear hFz hb5 T4 T5 own5 ownB hzz HCW HGK HSET
    go_upto_region 13 with fail
    generalize w5.setCell _ _ = w6 at own6 T6 ⊢
    clear hcell hfr hgl5 hgl z1 z2 z3 z4 z5 z6 z7 z8 z9
    have hR : Rd w6 w6.heap.size 1 (some ⟨g, 0, none⟩) M2.length (bcells M2) := by rw [HF1.out]; exact Rd.of_own own6
    have hB : BytesIs M2 (.slice (some ⟨g, 0, none⟩) nP c9) w6 := ⟨some ⟨g, 0, none⟩, c9, by rw [HF1.out], by rw [HF1.out]; exact hc9, hm9, rd_brows hR⟩
    clear hR own6
    go_wp2_with fail
    rcases HTWO.out with ⟨z, hz, -⟩ | ⟨z, hz, hp, hzr⟩
    · have h1 := H1.out
      rw [hz] at h1
      have hyb : (y != 0) = true := by rw [bne_iff_ne]; exact HY5.out z hz
      refine (h1 (some ⟨g, 0, none⟩) c9 w6 hB).mono ?_
      rintro r w10 ⟨u10, rfl, own10, hb10⟩
      simp only at own10 ⊢
      obtain ⟨A10, c10, rfl, -, -, -⟩ := own_open own10
      have T10 := (T6.call hb10).push (t := 54) (cs := mcA ⟨z.k, z.f, z.t, z.d, .slice A10 z.l.length c10, z.n, z.a⟩) rfl
      clear T6 hb10 own10 hB hz h1 H1 HTWO HY5
      go_wp2_with fail
      refine (works20 _).mono ?_
      rintro r w11 ⟨rfl, hb11⟩
      have T11 := T10.call hb11
      go_wp2_with fail
      go_ret
      exact ⟨rfl, T11.below⟩
    · have h1 := H1.out
      rw [hz] at h1
      refine (h1 (some ⟨g, 0, none⟩) c9 w6 hB).mono ?_
      rintro r w10 ⟨u10, rfl, own10, hb10⟩
      simp only at own10 ⊢
      obtain ⟨A10, c10, rfl, hc10, hm10, -⟩ := own_open own10
      have T10 := (T6.call hb10).push (t := 54) (cs := mcA ⟨z.k, z.f, z.t, z.d, .slice A10 z.l.length c10, z.n, z.a⟩) rfl
      have own11 := own10.alloc (.cells (mcA ⟨z.k, z.f, z.t, z.d, .slice A10 z.l.length c10, z.n, z.a⟩) 54)
      have hrows : ERows _ _ A10 z.l := Rd.of_own own11
      have okZ : z.ok := by rw [hzr]; exact HOKR.out
      have CPY := Lib.hid fun W hW => (show Calls Try.prog 44 #[.agg (mcA ⟨z.k, z.f, z.t, z.d, .slice A10 z.l.length c10, z.n, z.a⟩)] W (GivesB M2 W) from by
        have := mput z okZ A10 c10 W (hrows.next hW) hc10 hm10
        rw [hp] at this
        exact this)
      have hbB := (hB.keep _ _ _ _ hb10).keep _ _ _ _ ((Below.refl _ _).alloc (Nat.le_refl _) (.cells (mcA ⟨z.k, z.f, z.t, z.d, .slice A10 z.l.length c10, z.n, z.a⟩) 54))
      clear T6 hb10 own10 hB hz h1 H1 HTWO hp hzr okZ own11 hrows HY5
      generalize hg10 : w10.heap.size = g10 at T10
      go_upto_region 16 with fail
      clear hg10
      generalize w10.alloc _ = w11 at T10 CPY hbB ⊢
      generalize z.l.length = nz at *
      refine lw_region [.is (.agg (mcA ⟨z.k, z.f, z.t, z.d, .slice A10 nz c10, z.n, z.a⟩)), .bytes M2, .is (.string (strOfNums M2)), .is (.slice (some ⟨g, 0, none⟩) nP c9), .is (.string (strOfNums M2)), .is (.bool true), .is (.bool true), .is (.bool true), .is (.bool true), .is (.bool true)] (by kernel_rfl) (by kernel_rfl) ?_
      repeat
        first
          | refine lw_loadm T10 rfl _ rfl _ _ rfl rfl (by simp) ?_
          | refine lw_move rfl _ rfl _ rfl rfl ?_
          | refine lw_assign rfl _ rfl _ rfl rfl ?_
          | refine lw_pickT rfl _ _ _ rfl rfl _ rfl rfl ?_
          | refine lw_convR rfl _ rfl 1 _ rfl (by rfl) (by repeat (first | exact Or.inl ⟨rfl, rfl⟩ | apply Or.inr)) _ rfl rfl ?_
          | refine lw_conv rfl _ rfl _ rfl M2 hbB rfl ?_
          | ((refine lw_call_rel rfl 44 #[.agg (mcA ⟨z.k, z.f, z.t, z.d, .slice A10 nz c10, z.n, z.a⟩)] _ _ rfl ?_ (fun w hb => gives_rel (CPY.out w hb)) ?_); (· intro w; simp [go_sem] <;> rfl); intro zz)
          | ((refine lw_call rfl 39 #[] _ rfl ?_ (fun w _ => works20 w) ?_); (· intro w; simp [go_sem] <;> rfl))
          | ((refine lw_bin rfl _ _ _ _ _ rfl _ _ rfl rfl _ rfl ?_ ?_); (· intro ρ w h1 h2; simp [execOp, h1, h2, go_sem]))
        simp only [Act.put, List.setIfInBounds_toArray, List.set_cons_succ, List.set_cons_zero]
      intro w12 hb12
      have T12 := T10.call hb12
      go_wp2_with fail
      go_ret
      exact ⟨rfl, T12.below⟩
  · have e1 : (m.k == 1) = false := by rw [k2]; rfl
    have e2 : ((nP : Int) != 67) = false := by rw [bne_eq_false_iff_eq]; omega
    clear k2 hl HW
    go_upto_region 11 with fail
    clear q0 l0
    have hR3 : BRows w3 w3.heap.size A2 P := by
      obtain ⟨A', c', e, -, -, hr⟩ := hbs3
      injection e with e1 _ _
      rw [e1]; exact hr
    clear hbs3
    go_wp2_with (at_builtin; refine append_u8q _ rfl (.tmp 40) (.tmp 41) rfl w3.heap.size _ [] P nP HNP.out.symm rfl ?h1 A2 c2 w3.heap.size rfl ?h2 ?h3 ?h4 ?_; (case h1 => exact World.ownsRow_made w3 #[] 0 (Nat.le_refl _) (by decide) rfl); (case h2 => exact hR3.below ((Below.refl _ _).alloc (Nat.le_refl _) _)); (case h3 => have := HNP.out; simp; omega); (case h4 => simp); intro v1 wa ownB hba _; rw [List.nil_append] at ownB; have hwa := ((Below.refl w3.heap.size w3).alloc (Nat.le_refl _) (.cells #[] 5)).trans hba)
    have T4 := T3.call hwa
    have hz3 := T3.below.size
    have hlt3 := T3.lt
    obtain ⟨g, c9, hu, hgB, hc9, hm9⟩ : ∃ g c, v1 = .slice (some ⟨g, 0, none⟩) nP c ∧ w3.heap.size ≤ g ∧ nP ≤ c ∧ c ≤ maxLen := by
      rcases ownB.2 with ⟨_, h0⟩ | ⟨g, cap, cur, hv, hg, _, hnc, hcm, _⟩
      · have := HNP.out; omega
      · rw [← HNP.out] at hv hnc
        exact ⟨g, cap, hv, hg, hnc, hcm⟩
    subst hu
    rw [← HNP.out] at ownB
    have hgl := (ownB.lt g rfl).2
    have hcW : ∀ W, Below wa.heap.size wa W → W.cell? ⟨g, k, none⟩ = some (.int .u8 x) := fun W hW => by
      have := ownB.cells (g := g) rfl k (.int .u8 x) (by unfold bcells; rw [List.getElem?_map, HGK.out]; rfl)
      rw [addr_add, Nat.zero_add] at this
      exact (hW.cell (p := ⟨g, k, none⟩) hgl).trans this
    have HCW := Lib.hid hcW
    have z1 : IntKind.i64.wrap n = n := IntWalk.i64_in _ (by omega)
    have z2 : IntKind.i64.wrap (k : Int) = (k : Int) := IntWalk.i64_in _ (by omega)
    have z3 : ¬ (nP : Int) = 0 := by omega
    have z4 : ¬ nP = 0 := by omega
    have z5 : ¬ (k : Int) < 0 := by omega
    have z6 : ¬ (nP : Int) ≤ (k : Int) := by omega
    have z7 : (k : Int) < (nP : Int) := by omega
    have z8 : ¬ nP ≤ k := by omega
    have z9 : (0 : Int) ≤ (k : Int) := by omega
    clear hba hwa hR3 hcW T3
    refine wp_region_post 17 [.is (.slice (some ⟨g, 0, none⟩) nP c9), .is (.int .u16 n), .is (.int .i64 n), .is (.slice A2 nP c2), .is (.int .i64 nP), .is (.int .i64 k), .is (.slice (some ⟨g, 0, none⟩) nP c9), .is (.int .u16 n), .is (.int .i64 n), .is (.slice A2 nP c2), .is (.int .i64 nP), .is (.int .i64 k), .is (.pointer (some ⟨g, k, none⟩)), .is (.int .u8 x), .is (.int .u8 y), .is (.int .u8 (bits .xor .u8 x y)), .is (.pointer (some ⟨g, k, none⟩))] (by kernel_rfl) (by simp) (by kernel_rfl) (by kernel_rfl) (by kernel_rfl) (by kernel_rfl) ?_
    simp only [List.take_succ_cons, List.take_zero, List.drop_succ_cons, List.drop_zero]
    repeat
      first
        | refine lw_move rfl _ rfl _ rfl rfl ?_
        | ((refine lw_val rfl _ rfl (fun W hb' => ?_) ?_); (· have kc := HCW.out W hb'; have kl : g < W.heap.size := (by have := hb'.size; omega); have hk := HK.out; simp [execOp, go_sem, kc, kl, hk, z1, z2, z3, z4, z5, z6, z7, z8, z9]; done))
      simp only [Act.put, List.setIfInBounds_toArray, List.set_cons_succ, List.set_cons_zero]
    intro w5 hb5 hFz
    have T5 := T4.call hb5
    have own5 := ownsRow_below ownB hb5
    have hcell := HCW.out w5 hb5
    have hgl5 : g < w5.heap.size := by have := hb5.size; omega
    have hfr : w5.frozen? ⟨g, k, none⟩ = false := by
      rcases own5.2 with ⟨h', _⟩ | ⟨g', cap', cur, h', _, hg', _⟩
      · cases h'
      · obtain rfl : g = g' := by injection h' with h1; injection h1 with h1; injection h1
        exact Blk.frozen hg' k
    obtain ⟨own6, -⟩ := own5.stored k (.int .u8 (bits .xor .u8 x y))
    have T6 : Trk w (w5.setCell ⟨g, k, none⟩ (.int .u8 (bits .xor .u8 x y))) [(w.heap.size, 54, mcA ⟨m.k, m.f, m.t, m.d, .slice A m.l.length c, m.n, m.a⟩)] := T5.far (p := ⟨g, k, none⟩) (by show _ ≤ g; omega) ⟨by show _ ≠ g; omega, trivial⟩ _
    have hzz : (bcells P).set k (.int .u8 (bits .xor .u8 x y)) = bcells M2 := by rw [← HSET.out]; unfold bcells; rw [List.map_set]
    rw [hzz] at own6
    clear hFz hb5 T4 T5 own5 ownB hzz HCW HGK HSET
    go_upto_region 13 with fail
    generalize w5.setCell _ _ = w6 at own6 T6 ⊢
    clear hcell hfr hgl5 hgl z1 z2 z3 z4 z5 z6 z7 z8 z9
    have hR : Rd w6 w6.heap.size 1 (some ⟨g, 0, none⟩) M2.length (bcells M2) := by rw [HF1.out]; exact Rd.of_own own6
    have hB : BytesIs M2 (.slice (some ⟨g, 0, none⟩) nP c9) w6 := ⟨some ⟨g, 0, none⟩, c9, by rw [HF1.out], by rw [HF1.out]; exact hc9, hm9, rd_brows hR⟩
    clear hR own6
    go_wp2_with fail
    rcases HTWO.out with ⟨z, hz, -⟩ | ⟨z, hz, hp, hzr⟩
    · have h1 := H1.out
      rw [hz] at h1
      have hyb : (y != 0) = true := by rw [bne_iff_ne]; exact HY5.out z hz
      refine (h1 (some ⟨g, 0, none⟩) c9 w6 hB).mono ?_
      rintro r w10 ⟨u10, rfl, own10, hb10⟩
      simp only at own10 ⊢
      obtain ⟨A10, c10, rfl, -, -, -⟩ := own_open own10
      have T10 := (T6.call hb10).push (t := 54) (cs := mcA ⟨z.k, z.f, z.t, z.d, .slice A10 z.l.length c10, z.n, z.a⟩) rfl
      clear T6 hb10 own10 hB hz h1 H1 HTWO HY5
      go_wp2_with fail
      refine (works20 _).mono ?_
      rintro r w11 ⟨rfl, hb11⟩
      have T11 := T10.call hb11
      go_wp2_with fail
      go_ret
      exact ⟨rfl, T11.below⟩
    · have h1 := H1.out
      rw [hz] at h1
      refine (h1 (some ⟨g, 0, none⟩) c9 w6 hB).mono ?_
      rintro r w10 ⟨u10, rfl, own10, hb10⟩
      simp only at own10 ⊢
      obtain ⟨A10, c10, rfl, hc10, hm10, -⟩ := own_open own10
      have T10 := (T6.call hb10).push (t := 54) (cs := mcA ⟨z.k, z.f, z.t, z.d, .slice A10 z.l.length c10, z.n, z.a⟩) rfl
      have own11 := own10.alloc (.cells (mcA ⟨z.k, z.f, z.t, z.d, .slice A10 z.l.length c10, z.n, z.a⟩) 54)
      have hrows : ERows _ _ A10 z.l := Rd.of_own own11
      have okZ : z.ok := by rw [hzr]; exact HOKR.out
      have CPY := Lib.hid fun W hW => (show Calls Try.prog 44 #[.agg (mcA ⟨z.k, z.f, z.t, z.d, .slice A10 z.l.length c10, z.n, z.a⟩)] W (GivesB M2 W) from by
        have := mput z okZ A10 c10 W (hrows.next hW) hc10 hm10
        rw [hp] at this
        exact this)
      have hbB := (hB.keep _ _ _ _ hb10).keep _ _ _ _ ((Below.refl _ _).alloc (Nat.le_refl _) (.cells (mcA ⟨z.k, z.f, z.t, z.d, .slice A10 z.l.length c10, z.n, z.a⟩) 54))
      clear T6 hb10 own10 hB hz h1 H1 HTWO hp hzr okZ own11 hrows HY5
      generalize hg10 : w10.heap.size = g10 at T10
      go_upto_region 16 with fail
      clear hg10
      generalize w10.alloc _ = w11 at T10 CPY hbB ⊢
      generalize z.l.length = nz at *
      refine lw_region [.is (.agg (mcA ⟨z.k, z.f, z.t, z.d, .slice A10 nz c10, z.n, z.a⟩)), .bytes M2, .is (.string (strOfNums M2)), .is (.slice (some ⟨g, 0, none⟩) nP c9), .is (.string (strOfNums M2)), .is (.bool true), .is (.bool true), .is (.bool true), .is (.bool true), .is (.bool true)] (by kernel_rfl) (by kernel_rfl) ?_
      repeat
        first
          | refine lw_loadm T10 rfl _ rfl _ _ rfl rfl (by simp) ?_
          | refine lw_move rfl _ rfl _ rfl rfl ?_
          | refine lw_assign rfl _ rfl _ rfl rfl ?_
          | refine lw_pickT rfl _ _ _ rfl rfl _ rfl rfl ?_
          | refine lw_convR rfl _ rfl 1 _ rfl (by rfl) (by repeat (first | exact Or.inl ⟨rfl, rfl⟩ | apply Or.inr)) _ rfl rfl ?_
          | refine lw_conv rfl _ rfl _ rfl M2 hbB rfl ?_
          | ((refine lw_call_rel rfl 44 #[.agg (mcA ⟨z.k, z.f, z.t, z.d, .slice A10 nz c10, z.n, z.a⟩)] _ _ rfl ?_ (fun w hb => gives_rel (CPY.out w hb)) ?_); (· intro w; simp [go_sem] <;> rfl); intro zz)
          | ((refine lw_call rfl 39 #[] _ rfl ?_ (fun w _ => works20 w) ?_); (· intro w; simp [go_sem] <;> rfl))
          | ((refine lw_bin rfl _ _ _ _ _ rfl _ _ rfl rfl _ rfl ?_ ?_); (· intro ρ w h1 h2; simp [execOp, h1, h2, go_sem]))
        simp only [Act.put, List.setIfInBounds_toArray, List.set_cons_succ, List.set_cons_zero]
      intro w12 hb12
      have T12 := T10.call hb12
      go_wp2_with fail
      go_ret
      exact ⟨rfl, T12.below⟩
theorem msizes_law (m : Ms) (om : m.ok) (A : Option Addr) (c : Nat) (n y : Int) (n0 : 0 ≤ n) (n1 : n ≤ 65535) (y0 : 0 ≤ y) (y1 : y ≤ 255) (w : World) (hE : ERows w w.heap.size A m.l) (hce : m.l.length ≤ c) (hme : c ≤ maxLen) :
    Calls Try.prog 8 #[.agg (mcA ⟨m.k, m.f, m.t, m.d, .slice A m.l.length c, m.n, m.a⟩), .int .u16 n, .int .u8 y] w fun r w' => r = .returned (.bool true) ∧ Below w.heap.size w w' := by
  by_cases h : 40 < m.l.length ∨ mmayB m = false
  · exact msizes_no m om A c n y w hE hce hme h
  · have h2 : mmayB m = true := by
      cases hb : mmayB m with
      | true => rfl
      | false => exact absurd (.inr hb) h
    exact msizes_yes m om A c n y n0 n1 y0 y1 w hE hce hme (by omega) h2
end Go.Proofs.Ytolfnilickfneaa
