/-
  The walk of MessageOwn.
-/
import Derived.Test.YtolfnilickfneaaGM
import Derived.Test.YtolfnilickfneaaGB
import Derived.Laws.OwnMore
namespace Go.Proofs.Ytolfnilickfneaa
set_option linter.unusedVariables false
set_option linter.unusedSimpArgs false
open Go.RowKit
set_option maxRecDepth 100000

theorem own_frozen {w : World} {base : Nat} {e : TypeId} {size g n cap : Nat} {xs : List Value} (h : w.ownsRow base e size (.slice (some ⟨g, 0, none⟩) n cap) n xs) (j : Nat) : w.frozen? ⟨g, j, none⟩ = false := by
  rcases h.2 with ⟨h', _⟩ | ⟨g', cap', cur, h', _, hg', _⟩
  · cases h'
  · obtain rfl : g = g' := by injection h' with h1; injection h1 with h1; injection h1
    exact Blk.frozen hg' j
theorem own_at {w : World} {base : Nat} {e : TypeId} {size n cap : Nat} {A : Option Addr} {xs : List Value} (h : w.ownsRow base e size (.slice A n cap) n xs) (hn : 0 < n) : ∃ g, A = some ⟨g, 0, none⟩ ∧ base ≤ g ∧ g < w.heap.size := by
  rcases h.2 with ⟨_, h0⟩ | ⟨g, cap', cur, hv, hg, hh, _⟩
  · omega
  · injection hv with h1 _ _
    exact ⟨g, h1, hg, Blk.lt hh⟩
set_option maxHeartbeats 4000000 in
theorem mown_no (m : Ms) (om : m.ok) (A : Option Addr) (c : Nat) (w : World) (hE : ERows w w.heap.size A m.l) (hce : m.l.length ≤ c) (hme : c ≤ maxLen) (h : 40 < m.l.length ∨ mmayB m = false) :
    Calls Try.prog 9 #[.agg (mcA ⟨m.k, m.f, m.t, m.d, .slice A m.l.length c, m.n, m.a⟩)] w fun r w' => r = .returned (.bool true) ∧ Below w.heap.size w w' := by
  have hm2 : c ≤ 9223372036854775807 := hme
  by_cases hn : 40 < m.l.length
  · clear hE om h
    generalize m.l.length = nl at *
    go_enter Try.func9, Try.ntmps9
    go_wp2_with (go_at_call 39; (refine (works20 _).mono ?_); rintro r w1 ⟨rfl, hb⟩)
    all_goals
      go_ret
      exact ⟨rfl, ((Below.refl _ _).alloc (Nat.le_refl _) _).trans (hb.mono (by simp))⟩
  have hmb : mmayB m = false := h.resolve_left hn
  have hn1 : m.l.length ≤ 40 := by omega
  have C3 := Lib.hid fun W (hW : Below w.heap.size w W) => mput m om A c W (hE.next hW) hce hme
  have C1 := Lib.hid fun W (hW : Below w.heap.size w W) => mmay' m om false hmb A c W (hE.next hW) hce hme
  have h1 := mget' [] (by decide) (fun c hc => by cases hc)
  rw [getM_nil] at h1
  have H1 := Lib.hid h1
  rw [putM_no hmb] at C3
  clear hmb hn om hE h h1
  have hx0 := hn1
  generalize m.l.length = nl at *
  go_enter Try.func9, Try.ntmps9
  go_upto_region 3 with fail
  have T1 : Trk w _ [(w.heap.size, 54, mcA ⟨m.k, m.f, m.t, m.d, .slice A nl c, m.n, m.a⟩)] := (Trk.nil w).push (t := 54) (cs := mcA ⟨m.k, m.f, m.t, m.d, .slice A nl c, m.n, m.a⟩) rfl
  generalize w.alloc _ = w1 at T1 ⊢
  obtain ⟨q0, -, -⟩ := T1.rules
  obtain ⟨l0, -⟩ := T1.lts
  go_wp2_with fail
  refine (C3.out w1 T1.below).mono ?_
  rintro r w2 ⟨u2, rfl, own2, hb2⟩
  have hbs2 := BytesIs.of_own own2
  obtain ⟨A2, c2, hu, hc2, hm2', -⟩ := own_open own2
  have hu : u2 = .slice A2 0 c2 := hu
  subst hu
  have T2 := T1.call hb2
  clear T1 hb2 own2 q0 l0
  go_wp2_with fail
  refine (H1.out A2 c2 w2 hbs2).mono ?_
  rintro r w4 ⟨u4, rfl, own4, hb4⟩
  simp only at own4 ⊢
  obtain ⟨A4, c4, hu4, -, -, -⟩ := own_open own4
  subst hu4
  have T4 := (T2.call hb4).push (t := 54) (cs := mcA ⟨Ms.zero.k, Ms.zero.f, Ms.zero.t, Ms.zero.d, .slice A4 Ms.zero.l.length c4, Ms.zero.n, Ms.zero.a⟩) rfl
  clear T2 hb4 own4 hbs2
  obtain ⟨q1, -, q0, -, -⟩ := T4.rules
  obtain ⟨l1, l0, -⟩ := T4.lts
  go_wp2_with fail
  refine (C1.out _ T4.below).mono ?_
  rintro r w5 ⟨rfl, hb5⟩
  have T5 := T4.call hb5
  clear T4 hb5 q0 q1 l0 l1
  go_wp2_with fail
  refine (works20 _).mono ?_
  rintro r w6 ⟨rfl, hb6⟩
  have T6 := T5.call hb6
  go_wp2_with fail
  go_ret
  exact ⟨rfl, T6.below⟩
set_option maxHeartbeats 8000000 in
theorem mown_yes (m : Ms) (om : m.ok) (A : Option Addr) (c : Nat) (w : World) (hE : ERows w w.heap.size A m.l) (hce : m.l.length ≤ c) (hme : c ≤ maxLen) (hn1 : m.l.length ≤ 40) (hmb : mmayB m = true) :
    Calls Try.prog 9 #[.agg (mcA ⟨m.k, m.f, m.t, m.d, .slice A m.l.length c, m.n, m.a⟩)] w fun r w' => r = .returned (.bool true) ∧ Below w.heap.size w w' := by
  have hm2 : c ≤ 9223372036854775807 := hme
  have C3 := Lib.hid fun W (hW : Below w.heap.size w W) => mput m om A c W (hE.next hW) hce hme
  have C1 := Lib.hid fun W (hW : Below w.heap.size w W) => mmay' m om true hmb A c W (hE.next hW) hce hme
  have hpos := putM_pos hmb
  have hPl := putM_length_le (m := m)
  have h1 := mget' (putM m) (by omega) (putM_range m)
  rw [getM_putM om hmb] at h1
  have HE := Lib.hid hE
  generalize putM m = P at C3 h1 hpos hPl
  obtain ⟨nP, hnP⟩ : ∃ n, n = P.length := ⟨_, rfl⟩
  rw [← hnP] at h1 hpos hPl
  have HNP := Lib.hid hnP
  have H1 := Lib.hid h1
  clear h1 hnP hmb om hE
  go_enter Try.func9, Try.ntmps9
  go_upto_region 3 with fail
  have T1 : Trk w _ [(w.heap.size, 54, mcA ⟨m.k, m.f, m.t, m.d, .slice A m.l.length c, m.n, m.a⟩)] := (Trk.nil w).push (t := 54) (cs := mcA ⟨m.k, m.f, m.t, m.d, .slice A m.l.length c, m.n, m.a⟩) rfl
  have hz1 : w.heap.size + 1 ≤ (w.alloc (.cells (mcA ⟨m.k, m.f, m.t, m.d, .slice A m.l.length c, m.n, m.a⟩) 54)).heap.size := by simp
  generalize w.alloc _ = w1 at T1 hz1 ⊢
  obtain ⟨q0, -, -⟩ := T1.rules
  obtain ⟨l0, -⟩ := T1.lts
  go_wp2_with fail
  refine (C3.out w1 T1.below).mono ?_
  rintro r w2 ⟨u2, rfl, own2, hb2⟩
  have hbs2 := BytesIs.of_own own2
  obtain ⟨A2, c2, hu, hc2, hm2', -⟩ := own_open own2
  rw [← HNP.out] at hu hc2
  subst hu
  rw [← HNP.out] at own2
  obtain ⟨gb, rfl, hgb1, hgb2⟩ := own_at own2 (by omega)
  have T2 := T1.call hb2
  have i3 : c2 ≤ 9223372036854775807 := hm2'
  clear T1 hb2 q0 l0
  go_wp2_with fail
  refine (H1.out (some ⟨gb, 0, none⟩) c2 w2 hbs2).mono ?_
  rintro r w4 ⟨u4, rfl, own4, hb4⟩
  simp only at own4 ⊢
  obtain ⟨A4, c4, rfl, hc4, hm4, -⟩ := own_open own4
  have hge : ∀ ge, A4 = some ⟨ge, 0, none⟩ → 0 < m.l.length → w2.heap.size ≤ ge ∧ ge < w4.heap.size := fun ge he h0 => by
    obtain ⟨g, hg, h3, h4⟩ := own_at own4 h0
    rw [he] at hg
    injection hg with hg
    injection hg with hg
    subst hg
    exact ⟨h3, h4⟩
  have HGE := Lib.hid hge
  have T4 := (T2.call hb4).push (t := 54) (cs := mcA ⟨m.k, m.f, m.t, m.d, .slice A4 m.l.length c4, m.n, m.a⟩) rfl
  have own5 := own4.alloc (.cells (mcA ⟨m.k, m.f, m.t, m.d, .slice A4 m.l.length c4, m.n, m.a⟩) 54)
  have hb5 := hb4.alloc hb4.size (.cells (mcA ⟨m.k, m.f, m.t, m.d, .slice A4 m.l.length c4, m.n, m.a⟩) 54)
  have hz4 := hb4.size
  have hg20 : w.heap.size < w2.heap.size := T2.lt
  clear T2 hb4 own4 hge
  generalize hg4 : w4.heap.size = g4 at T4 HGE hz4
  obtain ⟨q1, -, q0, -, -⟩ := T4.rules
  obtain ⟨l1, l0, -⟩ := T4.lts
  go_upto_region 5 with fail
  clear hg4
  generalize w4.alloc _ = w5 at T4 own5 hb5 q1 q0 l1 l0 ⊢
  go_wp2_with fail
  refine (C1.out w5 T4.below).mono ?_
  rintro r w6 ⟨rfl, hb6⟩
  have T6 := T4.call hb6
  have own6 := ownsRow_below own5 hb6
  have hb7 := hb5.trans (hb6.mono hb5.size)
  have hcv1 := run_conv_bytes 42 5 9 Try.underlying42 Try.underlying5 Try.underlying9 (hbs2.keep _ _ _ _ hb7)
  clear T4 hb6 q0 q1 l0 l1 own5 hb5 C1
  go_wp2_with fail
  go_loopw [7] (fun i wr => ∃ (k : Nat) (xs : List Value), k ≤ m.l.length ∧ i = .int .i64 k ∧ wr.ownsRow w2.heap.size 41 14 (.slice A4 m.l.length c4) m.l.length xs ∧ (∀ j, j < m.l.length → ∃ s : Int, xs[j * 14 + 1]? = some (.int .u64 s)) ∧ Trk w wr [(g4, 54, mcA ⟨m.k, m.f, m.t, m.d, .slice A4 m.l.length c4, m.n, m.a⟩), (w.heap.size, 54, mcA ⟨m.k, m.f, m.t, m.d, .slice A m.l.length c, m.n, m.a⟩)] ∧ Below w2.heap.size w2 wr) (fun i _ => m.l.length - (intOf i).toNat)
  case atStart =>
    refine ⟨0, ecells m.l, by omega, rfl, own6, fun j hj => ?_, T6, hb7⟩
    obtain ⟨e, he⟩ : ∃ e, m.l[j]? = some e := ⟨m.l[j], List.getElem?_eq_getElem hj⟩
    exact ⟨e.s, by rw [ecells_get m.l j e he 1 (by omega)]; rfl⟩
  case round =>
    clear T6 own6 hb7 hcv1
    obtain ⟨k, xs, hk, rfl, hown, hxs, T, hb⟩ := hrel
    have HXS := Lib.hid hxs
    clear hxs
    obtain ⟨q1, -, q0, -, -⟩ := T.rules
    obtain ⟨l1, l0, -⟩ := T.lts
    by_cases hlt : k < m.l.length
    · obtain ⟨s, hs⟩ := HXS.out k hlt
      obtain ⟨ge, hA4, hge1, hge2⟩ := own_at hown (by omega)
      obtain ⟨h3, h4⟩ := HGE.out ge hA4 (by omega)
      subst hA4
      have hcell : wr.cell? ⟨ge, k * 14 + 1, none⟩ = some (.int .u64 s) := by
        have := hown.cells (g := ge) rfl (k * 14 + 1) _ hs
        rwa [addr_add, Nat.zero_add] at this
      have hfr := own_frozen hown (k * 14 + 1)
      have i1 : (0 : Int) ≤ (k : Int) := by omega
      have i2 : (k : Int) < (m.l.length : Int) := by omega
      have HS := Lib.hid hs
      clear hs
      go_wp2_with fail
      go_roundw
      case rel =>
        obtain ⟨own', -⟩ := hown.stored (k * 14 + 1) (.int .u64 ((s + 1) % 18446744073709551616))
        refine ⟨k + 1, _, by omega, by go_num, own', fun j hj => ?_, T.far (p := ⟨ge, _, none⟩) (by show _ ≤ ge; omega) ⟨by show _ ≠ ge; omega, by show _ ≠ ge; omega, trivial⟩ _, hb.setCell (by show _ ≤ ge; omega) _⟩
        by_cases hjk : j = k
        · subst hjk
          refine ⟨(s + 1) % 18446744073709551616, ?_⟩
          rw [List.getElem?_set_self (List.getElem?_eq_some_iff.1 HS.out).1]
        · obtain ⟨s', hs'⟩ := HXS.out j hj
          exact ⟨s', by rw [List.getElem?_set_ne (by omega)]; exact hs'⟩
      case measure => simp [intOf]; omega
    · obtain rfl : k = m.l.length := by omega
      have hbs3 := hbs2.keep _ _ _ _ hb
      have hcv2 := run_conv_bytes 42 5 9 Try.underlying42 Try.underlying5 Try.underlying9 hbs3
      have own3 := ownsRow_below own2 hb
      have hse : ((strOfNums P).toList == (strOfNums P).toList) = true := by simp
      have hwz := hb.size
      clear hown HXS own2 hbs2
      go_wp2_with fail
      have hgB8 : gb < wr.heap.size := by omega
      refine (H1.out (some ⟨gb, 0, none⟩) c2 wr hbs3).mono ?_
      rintro r w8 ⟨u8, rfl, own8, hb8⟩
      simp only at own8 ⊢
      obtain ⟨A8, c8, rfl, hc8, hm8, -⟩ := own_open own8
      have T8 := ((T.call hb8).push (t := 54) (cs := mcA ⟨m.k, m.f, m.t, m.d, .slice A8 m.l.length c8, m.n, m.a⟩) rfl).perm (cs := [(w8.heap.size, 54, mcA ⟨m.k, m.f, m.t, m.d, .slice A8 m.l.length c8, m.n, m.a⟩), (w.heap.size, 54, mcA ⟨m.k, m.f, m.t, m.d, .slice A m.l.length c, m.n, m.a⟩)]) (by simp)
      have own9 := own8.alloc (.cells (mcA ⟨m.k, m.f, m.t, m.d, .slice A8 m.l.length c8, m.n, m.a⟩) 54)
      have ownb := (ownsRow_below own3 hb8).alloc (.cells (mcA ⟨m.k, m.f, m.t, m.d, .slice A8 m.l.length c8, m.n, m.a⟩) 54)
      have hg8 : gb < w8.heap.size := by have := hb8.size; omega
      clear hb hb8 own8 own3 T hbs3 hcv2 hse q0 q1 l0 l1 hwz H1
      generalize wr.heap.size = B8 at own9 hgB8
      generalize hgg : w8.heap.size = g8 at T8 hg8
      go_upto_region 15 with fail
      clear hgg
      generalize w8.alloc _ = w9 at T8 own9 ownb ⊢
      go_wp2_with fail
      clear wr
      go_loopw [10] (fun i wr => ∃ (k : Nat) (xs : List Value), k ≤ nP ∧ i = .int .i64 k ∧ wr.ownsRow w1.heap.size 5 1 (.slice (some ⟨gb, 0, none⟩) nP c2) nP xs ∧ (∀ j, j < nP → ∃ s : Int, xs[j]? = some (.int .u8 s)) ∧ Trk w wr [(g8, 54, mcA ⟨m.k, m.f, m.t, m.d, .slice A8 m.l.length c8, m.n, m.a⟩), (w.heap.size, 54, mcA ⟨m.k, m.f, m.t, m.d, .slice A m.l.length c, m.n, m.a⟩)] ∧ wr.ownsRow B8 41 14 (.slice A8 m.l.length c8) m.l.length (ecells m.l)) (fun i _ => nP - (intOf i).toNat)
      case atStart =>
        refine ⟨0, bcells P, by omega, rfl, ownb, fun j hj => ?_, T8, own9⟩
        have hjP : j < P.length := by rw [← HNP.out]; exact hj
        exact ⟨P[j], by unfold bcells; rw [List.getElem?_map, List.getElem?_eq_getElem hjP]; rfl⟩
      case round =>
        clear T8 own9 ownb
        obtain ⟨k, xs, hk, rfl, hown, hxs, T, hev⟩ := hrel
        have HXS := Lib.hid hxs
        clear hxs
        obtain ⟨q1, -, q0, -, -⟩ := T.rules
        obtain ⟨l1, l0, -⟩ := T.lts
        by_cases hlt : k < nP
        · obtain ⟨s, hs⟩ := HXS.out k hlt
          have hcell : wr.cell? ⟨gb, k, none⟩ = some (.int .u8 s) := by
            have := hown.cells (g := gb) rfl k _ hs
            rwa [addr_add, Nat.zero_add] at this
          have hfr := own_frozen hown k
          have hgl := (hown.lt gb rfl).2
          have i1 : (0 : Int) ≤ (k : Int) := by omega
          have i2 : (k : Int) < (nP : Int) := by omega
          have HS := Lib.hid hs
          clear hs
          go_wp2_with fail
          go_roundw
          case rel =>
            obtain ⟨own', -⟩ := hown.stored k (.int .u8 ((s + 1) % 256))
            refine ⟨k + 1, _, by omega, by go_num, own', fun j hj => ?_, T.far (p := ⟨gb, _, none⟩) (by show _ ≤ gb; omega) ⟨by show _ ≠ gb; omega, by show _ ≠ gb; omega, trivial⟩ _, own_far (p := ⟨gb, k, none⟩) hev hgB8 _⟩
            by_cases hjk : j = k
            · subst hjk
              refine ⟨(s + 1) % 256, ?_⟩
              rw [List.getElem?_set_self (List.getElem?_eq_some_iff.1 HS.out).1]
            · obtain ⟨s', hs'⟩ := HXS.out j hj
              exact ⟨s', by rw [List.getElem?_set_ne (by omega)]; exact hs'⟩
          case measure => simp [intOf]; omega
        · obtain rfl : k = nP := by omega
          have hrows : ERows wr wr.heap.size A8 m.l := Rd.of_own hev
          have cs := rsame08 A8 A c8 c wr.heap.size m.l m.l wr hrows ((HE.out.below T.below).mono T.below.size) (Nat.le_refl _) hc8 hm8 hce hme
          rw [show decide (m.l = m.l) = true from by simp] at cs
          have CS := Lib.hid cs
          clear cs hrows hev hown HXS
          go_wp2_with fail
          refine CS.out.mono ?_
          rintro r w10 ⟨rfl, hb10⟩
          have T10 := T.call hb10
          clear T hb10 q0 q1 l0 l1 CS HE
          go_wp2_with fail
          refine (works20 _).mono ?_
          rintro r w11 ⟨rfl, hb11⟩
          have T11 := T10.call hb11
          go_wp2_with fail
          go_ret
          exact ⟨rfl, T11.below⟩
theorem mown_law (m : Ms) (om : m.ok) (A : Option Addr) (c : Nat) (w : World) (hE : ERows w w.heap.size A m.l) (hce : m.l.length ≤ c) (hme : c ≤ maxLen) :
    Calls Try.prog 9 #[.agg (mcA ⟨m.k, m.f, m.t, m.d, .slice A m.l.length c, m.n, m.a⟩)] w fun r w' => r = .returned (.bool true) ∧ Below w.heap.size w w' := by
  by_cases h : 40 < m.l.length ∨ mmayB m = false
  · exact mown_no m om A c w hE hce hme h
  · have h2 : mmayB m = true := by
      cases hb : mmayB m with
      | true => rfl
      | false => exact absurd (.inr hb) h
    exact mown_yes m om A c w hE hce hme (by omega) h2
end Go.Proofs.Ytolfnilickfneaa
