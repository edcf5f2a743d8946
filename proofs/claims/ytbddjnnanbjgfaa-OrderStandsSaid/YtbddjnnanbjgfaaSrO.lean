/-
  The walk of package order: Sort.
-/
import Derived.Test.YtbddjnnanbjgfaaSrR
import Derived.Deep.LoopGhost
namespace Go.Proofs.Ytbddjnnanbjgfaa
set_option linter.unusedVariables false
set_option linter.unusedSimpArgs false
open Go.RowKit

theorem oready' (v : Vec) (e : Ev) (hv : e.ok) (b : Bool) (h : readyB v e = b) (w : World) : Calls Try.prog 31 #[.agg (vecA v), .agg (evA e)] w fun r w' => r = .returned (.bool b) ∧ Below w.heap.size w w' := by
  subst h; exact oready v e hv w
set_option maxHeartbeats 2000000 in
theorem osort (A : Option Addr) (c : Nat) (L : List Ev) (B : Nat) (w : World) (hE : ERows w B A L) (hB : B ≤ w.heap.size) (hc : L.length ≤ c) (hm : c ≤ maxLen) (hn : L.length ≤ 1000) (okL : ∀ e ∈ L, e.ok) :
    Calls Try.prog 29 #[.slice A L.length c] w (GivesEI (sortS L) (L.length - (sortS L).length) w) := by
  have hm1 : c ≤ 9223372036854775807 := hm
  go_enter Try.func29, Try.ntmps29
  go_wp2_with fail
  go_step3
  go_wp2_with fail
  go_step3
  go_wp2_with fail
  go_loopg [2] L.length (fun g u wr => ∃ n : Nat, n + g = L.length ∧ (runS L n).2.length = n ∧ wr.ownsRow (w.heap.size + 1) 44 14 u n (ecells (runS L n).2) ∧ Trk w wr [(w.heap.size, 24, vecA (runS L n).1)])
  case atStart => exact ⟨0, by omega, rfl, World.ownsRow_nil _ _ _ _, (Trk.nil w).push rfl⟩
  case round =>
    obtain ⟨n, hng, hlen, hown, T⟩ := hrel
    obtain ⟨A5, c5, rfl, hc5, hm5, -⟩ := own_open hown
    obtain ⟨hvok, -, _, hcnt⟩ := runS_facts L n
    have hS := fun h => sortS_of L n h hlen
    have hR : runS L (n + 1) = match bestI (runS L n).1 L L.length with
      | none => runS L n
      | some i => (incV (runS L n).1 ((L.getD i Ev.zero).o - 1).toNat, (runS L n).2 ++ [L.getD i Ev.zero]) := rfl
    generalize hv : (runS L n).1 = v at hvok hcnt T hS hR
    generalize ho : (runS L n).2 = out at hlen hown hcnt hR
    have HS := Lib.hid hS
    have HR := Lib.hid hR
    have HO := Lib.hid ho
    have HLEN := Lib.hid hlen
    have HE := Lib.hid hE
    clear hS hR hv ho hlen hE
    go_wp2_with fail
    obtain ⟨gO, hgO⟩ : ∃ x, x = gk := ⟨gk, rfl⟩
    subst hgO
    go_loopg [2, 5] 6 (fun g2 u o w2 => ∃ p : Nat, p + g2 = 6 ∧ o = .int .i64 ((p : Int) + 1) ∧ u = .slice A5 n c5 ∧ Hid (∀ (j : Nat) (e : Ev), L[j]? = some e → readyB v e = true → (p : Int) < e.o) ∧ w2.ownsRow (w.heap.size + 1) 44 14 (.slice A5 n c5) n (ecells out) ∧ Trk w w2 [(w.heap.size, 24, vecA v)])
    case atStart => exact ⟨0, by omega, rfl, rfl, Lib.hid fun j e he hr => by obtain ⟨k, _, h, _⟩ := ready_facts hr; omega, hown, T⟩
    case round =>
      obtain ⟨p, hpg, rfl, rfl, HP, hown2, T2⟩ := hrel
      clear hown T
      obtain ⟨gM, hgM⟩ : ∃ x, x = gk := ⟨gk, rfl⟩
      subst hgM
      by_cases hp : p < 6
      · have hpd : decide ((p : Int) + 1 ≤ 6) = true := by simp; omega
        go_wp2_with fail
        go_loopg [2, 14] L.length (fun g3 u i w2 => ∃ k : Nat, k + g3 = L.length ∧ i = .int .i64 k ∧ u = .slice A5 n c5 ∧ Hid (∀ (j : Nat) (e : Ev), j < k → L[j]? = some e → readyB v e = true → (p : Int) + 1 < e.o) ∧ w2.ownsRow (w.heap.size + 1) 44 14 (.slice A5 n c5) n (ecells out) ∧ Trk w w2 [(w.heap.size, 24, vecA v)])
        case atStart => exact ⟨0, by omega, rfl, rfl, Lib.hid fun j e hj => absurd hj (by omega), hown2, T2⟩
        case round =>
          obtain ⟨k, hkg, rfl, rfl, HK, hown3, T3⟩ := hrel
          clear hown2 T2
          by_cases hlt : k < L.length
          · obtain ⟨x, hx⟩ : ∃ x, L[k]? = some x := ⟨L[k], List.getElem?_eq_getElem hlt⟩
            have okx := okL x (List.mem_of_getElem? hx)
            obtain ⟨b1, o1, rfl, hb1, x0, x1, x2, x3, x4, x5, x6, x7, x8, x9, x10, x11, x12, x13⟩ := ERows.at_ (HE.out.below (T3.below.mono hB)) hx
            have i1 : (0 : Int) ≤ (k : Int) := by omega
            have i2 : (k : Int) < (L.length : Int) := by omega
            obtain ⟨q0, f0, -⟩ := T3.rules
            have l0 := T3.lt
            obtain ⟨rb, hrb⟩ : ∃ b, readyB v x = b := ⟨_, rfl⟩
            have C1 := Lib.hid (oready' v x okx rb hrb)
            have HRB := Lib.hid hrb
            have HX := Lib.hid hx
            clear hrb hx
            by_cases hxo : x.o = (p : Int) + 1
            · have hq : (x.o == (p : Int) + 1) = true := by rw [beq_iff_eq]; exact hxo
              have HXO := Lib.hid hxo
              clear hxo
              rcases (show rb = false ∨ rb = true from by cases rb <;> simp) with rfl | rfl
              · go_wp2_with (go_at_call 31; (with_reducible refine (C1.out _).mono ?_); rintro r w4 ⟨rfl, hb4⟩)
                have T4 := (T3.alloc (.cells (evA x) 44)).call hb4
                have hown4 := ownsRow_below (hown3.alloc (.cells (evA x) 44)) hb4
                go_roundg (gk - 1)
                case measure => omega
                case rel => exact ⟨k + 1, by omega, by go_num, rfl, Lib.hid fun j e hj he hr => if ej : j = k then by
                    subst ej
                    have h1 := HX.out
                    rw [he] at h1
                    obtain rfl := Option.some.inj h1
                    rw [HRB.out] at hr; cases hr
                  else HK.out j e (by omega) he hr, hown4, T4⟩
              · have hbest : Best v L L.length k := ⟨hlt, x, HX.out, HRB.out, fun j e hj he hr => by
                  have h1 := HP.out j e he hr
                  have h2 := HXO.out
                  by_cases hjk : j < k
                  · have := HK.out j e hjk he hr; exact .inl (by omega)
                  · by_cases ho : x.o < e.o
                    · exact .inl ho
                    · exact .inr ⟨by omega, by omega⟩⟩
                have hbI := bestI_of_best hbest
                have hg : L.getD k Ev.zero = x := by rw [List.getD_eq_getElem?_getD, HX.out]; rfl
                have hR := HR.out
                rw [hbI] at hR
                simp only [hg] at hR
                have e1 : (x.o - 1).toNat = p := by have := HXO.out; omega
                rw [e1] at hR
                obtain ⟨j', hj', hoj, hs1, hs2, hvj, _⟩ := ready_facts HRB.out
                have hcs := cnt_step HRB.out (List.mem_of_getElem? HX.out)
                have hlen := HLEN.out
                have hgO : 0 < gO := by omega
                have k1 : (0 : Int) ≤ (p : Int) := by omega
                have k2 : (p : Int) < 6 := by omega
                have gj := vecA_get v p hp
                have HST := Lib.hid (vecA_set v p ((v.get p + 1) % 18446744073709551616) hp)
                have hwr : IntKind.u64.wrap (v.get p + 1) = (v.get p + 1) % 18446744073709551616 := IntKind.wrap_u64 _
                have HR2 := Lib.hid hR
                obtain rfl : out.length = n := hlen
                clear hbest hbI hg hR e1 hcs hj' hoj hs1 hs2 hvj
                go_wp2_with (first
                  | (go_at_call 31; (with_reducible refine (C1.out _).mono ?_); rintro r w4 ⟨rfl, hb4⟩; have T4 := (T3.push (t := 44) (cs := evA x) rfl).call hb4; have hown4 := ownsRow_below (hown3.alloc (.cells (evA x) 44)) hb4; clear q0 f0; obtain ⟨p0, -, q0, f0, -⟩ := T4.rules)
                  | (at_builtin; refine append_ev _ rfl (.tmp 27) (.tmp 29) rfl (w.heap.size + 1) _ out x rfl (hown4.alloc _) w4.heap.size rfl (Blk.new _ _ _) (by omega) (by have := T4.below.size; have := T4.lt; simp; omega) ?_; intro v' w' hown' hb'; have T5 := ((T4.perm (cs := [(w.heap.size, 24, vecA v)]) (by simp)).alloc (.cells (evA x) 44)).callB hb' (Nat.le_succ _) ⟨by omega, trivial⟩; clear q0 f0 p0; obtain ⟨q0, f0, -⟩ := T5.rules))
                have hown5 := own_far (p := ⟨w.heap.size, p, none⟩) hown' (Nat.lt_succ_self _) (.int .u64 ((v.get p + 1) % 18446744073709551616))
                have T6 := T5.set_ (Nat.le_refl _) trivial p (.int .u64 ((v.get p + 1) % 18446744073709551616))
                rw [HST.out] at T6
                have hr := HR2.out
                have hlen2 : (out ++ [x]).length = out.length + 1 := by simp
                go_roundg (gO - 1)
                case measure => omega
                case rel => exact ⟨out.length + 1, by omega, by rw [hr]; exact hlen2, by rw [hr]; rw [hlen2] at hown5; exact hown5, by rw [hr]; exact T6⟩
            · have hq : (x.o == (p : Int) + 1) = false := by rw [beq_eq_false_iff_ne]; exact hxo
              have HXO := Lib.hid hxo
              clear hxo
              go_wp2_with fail
              have T4 := T3.alloc (.cells (evA x) 44)
              have hown4 := hown3.alloc (.cells (evA x) 44)
              go_roundg (gk - 1)
              case measure => omega
              case rel => exact ⟨k + 1, by omega, by go_num, rfl, Lib.hid fun j e hj he hr => if ej : j = k then by
                  subst ej
                  have h1 := HX.out
                  rw [he] at h1
                  obtain rfl := Option.some.inj h1
                  have := HP.out j e he hr
                  have := HXO.out
                  omega
                else HK.out j e (by omega) he hr, hown4, T4⟩
          · obtain rfl : k = L.length := by omega
            go_wp2_with fail
            go_roundg (gM - 1)
            case measure => omega
            case rel => exact ⟨p + 1, by omega, by go_num, rfl, Lib.hid fun j e he hr => by
              have := HK.out j e (List.getElem?_eq_some_iff.1 he).1 he hr
              omega, hown3, T3⟩
      · obtain rfl : p = 6 := by omega
        have hnone : bestI v L L.length = none := bestI_of_none fun j e hj he => by
          cases hr : readyB v e with
          | false => rfl
          | true =>
            obtain ⟨k, _, h, _⟩ := ready_facts hr
            have := HP.out j e he hr
            omega
        have hst := HS.out hnone
        have HST := Lib.hid (show sortS L = out by unfold sortS; rw [hst, HO.out])
        have hle : n ≤ L.length := by omega
        clear hnone hst
        have i1 : IntKind.i64.wrap ((L.length : Int) - (n : Int)) = (L.length : Int) - (n : Int) := IntWalk.i64_in _ (by omega)
        go_wp2_with fail
        try rw [Exit.noGoto_ret]
        go_ret2
        refine ⟨.slice A5 n c5, ?_, ?_, ?_⟩
        · rw [HST.out, HLEN.out]; rfl
        · rw [HST.out, HLEN.out]; exact own_mono hown2 (Nat.le_succ _)
        · exact T2.below
end Go.Proofs.Ytbddjnnanbjgfaa
