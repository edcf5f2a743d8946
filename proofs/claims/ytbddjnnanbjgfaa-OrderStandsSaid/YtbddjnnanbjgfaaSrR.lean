/-
  The walk of the document's package leatref10: Sort.
-/
import Derived.Test.YtbddjnnanbjgfaaEvs
import Derived.Test.YtbddjnnanbjgfaaGei
import Derived.Test.YtbddjnnanbjgfaaSoP
import Derived.Test.YtbddjnnanbjgfaaOs
namespace Go.Proofs.Ytbddjnnanbjgfaa
set_option linter.unusedVariables false
set_option linter.unusedSimpArgs false
open Go.RowKit

def sliceLen : Value → Nat
  | .slice _ n _ => n
  | _ => 0
theorem own_len {w : World} {base : Nat} {e : TypeId} {size : Nat} {v : Value} {n : Nat} {xs : List Value} (h : w.ownsRow base e size v n xs) : sliceLen v = n := by
  obtain ⟨A, c, rfl, _⟩ := own_open h
  rfl
def atOf : Option Nat → Int
  | none => -1
  | some i => i
theorem rready' (v : Vec) (hvv : v.ok) (e : Ev) (hv : e.ok) (b : Bool) (h : readyB v e = b) (w : World) : Calls Try.prog 32 #[.agg (vecA v), .agg (evA e)] w fun r w' => r = .returned (.bool b) ∧ Below w.heap.size w w' := by
  subst h; exact rready v hvv e hv w
set_option maxHeartbeats 2000000 in
theorem rsort (A : Option Addr) (c : Nat) (L : List Ev) (B : Nat) (w : World) (hE : ERows w B A L) (hB : B ≤ w.heap.size) (hc : L.length ≤ c) (hm : c ≤ maxLen) (hn : L.length ≤ 1000) (okL : ∀ e ∈ L, e.ok) :
    Calls Try.prog 30 #[.slice A L.length c] w (GivesEI (sortS L) (L.length - (sortS L).length) w) := by
  have hm1 : c ≤ 9223372036854775807 := hm
  go_enter Try.func30, Try.ntmps30
  go_wp2_with fail
  go_loopw [5] (fun u wr => ∃ n : Nat, (runS L n).2.length = n ∧ wr.ownsRow (w.heap.size + 1) 44 14 u n (ecells (runS L n).2) ∧ Trk w wr [(w.heap.size, 24, vecA (runS L n).1)]) (fun u _ => L.length - sliceLen u)
  case atStart => exact ⟨0, rfl, World.ownsRow_nil _ _ _ _, (Trk.nil w).push rfl⟩
  case round =>
    obtain ⟨n, hlen, hown, T⟩ := hrel
    obtain ⟨A5, c5, rfl, hc5, hm5, -⟩ := own_open hown
    obtain ⟨hvok, hrun, _, hcnt⟩ := runS_facts L n
    have hS := fun h => sortS_of L n h hlen
    have hR : runS L (n + 1) = match bestI (runS L n).1 L L.length with
      | none => runS L n
      | some i => (incV (runS L n).1 ((L.getD i Ev.zero).o - 1).toNat, (runS L n).2 ++ [L.getD i Ev.zero]) := rfl
    generalize hv : (runS L n).1 = v at hvok hrun hcnt T hS hR
    generalize ho : (runS L n).2 = out at hlen hown hcnt hR
    have HS := Lib.hid hS
    have HR := Lib.hid hR
    have HV := Lib.hid hv
    have HO := Lib.hid ho
    have HRUN := Lib.hid hrun
    have HLEN := Lib.hid hlen
    have HE := Lib.hid hE
    clear hS hR hv ho hrun hlen hE
    go_wp2_with fail
    go_loopw [6, 7] (fun at_ i w2 => ∃ k : Nat, k ≤ L.length ∧ i = .int .i64 k ∧ at_ = .int .i64 (atOf (bestI v L k)) ∧ w2.ownsRow (w.heap.size + 1) 44 14 (.slice A5 n c5) n (ecells out) ∧ Trk w w2 [(w.heap.size, 24, vecA v)]) (fun _ i _ => L.length - (intOf i).toNat)
    case atStart => exact ⟨0, by omega, rfl, rfl, hown, T⟩
    case round =>
      obtain ⟨k, hk, rfl, rfl, hown2, T2⟩ := hrel
      clear hown T
      by_cases hlt : k < L.length
      · obtain ⟨x, hx⟩ : ∃ x, L[k]? = some x := ⟨L[k], List.getElem?_eq_getElem hlt⟩
        have okx := okL x (List.mem_of_getElem? hx)
        obtain ⟨b1, o1, rfl, hb1, x0, x1, x2, x3, x4, x5, x6, x7, x8, x9, x10, x11, x12, x13⟩ := ERows.at_ (HE.out.below (T2.below.mono hB)) hx
        have hb2 : b1 < wr.heap.size := Nat.lt_of_lt_of_le hb1 (Nat.le_trans hB T2.below.size)
        have i1 : (0 : Int) ≤ (k : Int) := by omega
        have i2 : (k : Int) < (L.length : Int) := by omega
        obtain ⟨q0, -, -⟩ := T2.rules
        obtain ⟨l0, -⟩ := T2.lts
        have hnext : bestI v L (k + 1) = (match bestI v L k with
            | none => if readyB v x = true then some k else none
            | some i => if readyB v x = true ∧ x.o < (L.getD i Ev.zero).o then some k else some i) := by rw [bestI, hx]; rfl
        have hcell := fun i e (hi : L[i]? = some e) => ERows.at_ (HE.out.below (T2.below.mono hB)) hi
        obtain ⟨rb, hrb⟩ : ∃ b, readyB v x = b := ⟨_, rfl⟩
        have C1 := Lib.hid (rready' v hvok x okx rb hrb)
        rw [hrb] at hnext
        have hsp := bestI_spec v L k
        generalize bestI v L k = bk at hnext hsp
        have HN := Lib.hid hnext
        have HX := Lib.hid hx
        have HC := Lib.hid hcell
        have HP := Lib.hid hsp
        clear hrb hnext hx hcell hsp
        rcases (show rb = false ∨ rb = true from by cases rb <;> simp) with rfl | rfl
        · have hf : bestI v L (k + 1) = bk := by rw [HN.out]; cases bk <;> simp
          have HF := Lib.hid hf
          clear hf
          go_wp2_with fail
          refine wp_region_later (by kernel_rfl) (by kernel_rfl) ?_
          repeat (go_big_quiet_step (first | (go_at_call 32; with_reducible exact Calls.later (C1.out _))))
          refine wpQuiet_nil ?_
          rintro w3 ⟨y, rfl⟩
          have T3 := T2.call y.below
          have hown3 := ownsRow_below hown2 y.below
          generalize y.w = w3 at T3 hown3
          clear y
          go_wp2_with fail
          go_roundw
          case rel => exact ⟨k + 1, by omega, by go_num, by rw [HF.out], hown3, T3⟩
          case measure => simp [intOf]; omega
        · cases bk with
          | none =>
            have HF := Lib.hid (show bestI v L (k + 1) = some k from by rw [HN.out]; rfl)
            have ha : atOf none = -1 := rfl
            go_wp2_with fail
            refine wp_region_later (by kernel_rfl) (by kernel_rfl) ?_
            repeat (go_big_quiet_step (first | (go_at_call 32; with_reducible exact Calls.later (C1.out _))))
            refine wpQuiet_nil ?_
            rintro w3 ⟨y, rfl⟩
            have T3 := T2.call y.below
            have hown3 := ownsRow_below hown2 y.below
            generalize y.w = w3 at T3 hown3
            clear y
            go_wp2_with fail
            go_roundw
            case rel => exact ⟨k + 1, by omega, by go_num, by rw [HF.out]; rfl, hown3, T3⟩
            case measure => simp [intOf]; omega
          | some i =>
            obtain ⟨j, hj, hbest⟩ : ∃ j, some i = some j ∧ Best v L k j := by
              rcases HP.out with ⟨h, _⟩ | h
              · cases h
              · exact h
            obtain rfl : i = j := Option.some.inj hj
            obtain ⟨hik, e, hie, _, _⟩ := hbest
            obtain ⟨b3, o3, hA3, hb3, y0, -⟩ := HC.out i e hie
            obtain ⟨rfl, rfl⟩ : b1 = b3 ∧ o1 = o3 := by simpa using hA3
            have hg : L.getD i Ev.zero = e := by rw [List.getD_eq_getElem?_getD, hie]; rfl
            have j1 : (0 : Int) ≤ (i : Int) := by omega
            have j2 : (i : Int) < (L.length : Int) := by omega
            have ha : atOf (some i) = (i : Int) := rfl
            have hneg : decide ((i : Int) < 0) = false := by simp
            have hn2 := HN.out
            simp only [hg] at hn2
            have HG := Lib.hid hn2
            clear hj hA3 hie hg hn2
            by_cases hlt2 : x.o < e.o
            · have HF := Lib.hid (show bestI v L (k + 1) = some k from by rw [HG.out]; simp [hlt2])
              have hd : decide (x.o < e.o) = true := by simpa using hlt2
              go_wp2_with fail
              refine wp_region_later (by kernel_rfl) (by kernel_rfl) ?_
              repeat (go_big_quiet_step (first | (go_at_call 32; with_reducible exact Calls.later (C1.out _))))
              refine wpQuiet_nil ?_
              rintro w3 ⟨y, rfl⟩
              have T3 := T2.call y.below
              have hown3 := ownsRow_below hown2 y.below
              generalize y.w = w3 at T3 hown3
              clear y
              go_wp2_with fail
              go_roundw
              case rel => exact ⟨k + 1, by omega, by go_num, by rw [HF.out]; rfl, hown3, T3⟩
              case measure => simp [intOf]; omega
            · have HF := Lib.hid (show bestI v L (k + 1) = some i from by rw [HG.out]; simp [hlt2])
              have hd : decide (x.o < e.o) = false := by simpa using hlt2
              go_wp2_with fail
              refine wp_region_later (by kernel_rfl) (by kernel_rfl) ?_
              repeat (go_big_quiet_step (first | (go_at_call 32; with_reducible exact Calls.later (C1.out _))))
              refine wpQuiet_nil ?_
              rintro w3 ⟨y, rfl⟩
              have T3 := T2.call y.below
              have hown3 := ownsRow_below hown2 y.below
              generalize y.w = w3 at T3 hown3
              clear y
              go_wp2_with fail
              go_roundw
              case rel => exact ⟨k + 1, by omega, by go_num, by rw [HF.out]; rfl, hown3, T3⟩
              case measure => simp [intOf]; omega
      · obtain rfl : k = L.length := by omega
        rcases bestI_spec v L L.length with ⟨hb, _⟩ | ⟨i, hb, hi, e, hie, hrd, _⟩
        · have hst := HS.out hb
          have hlen := HLEN.out
          have hO := HO.out
          rw [hb]
          have ha : atOf none = -1 := rfl
          have HST := Lib.hid (show sortS L = out by unfold sortS; rw [hst, hO])
          have HLE := Lib.hid hlen
          have hle : n ≤ L.length := by omega
          clear hb hst hlen hO
          have i1 : IntKind.i64.wrap ((L.length : Int) - (n : Int)) = (L.length : Int) - (n : Int) := IntWalk.i64_in _ (by omega)
          go_wp2_with fail
          go_ret2
          refine ⟨.slice A5 n c5, ?_, ?_, ?_⟩
          · rw [HST.out, HLE.out]; rfl
          · rw [HST.out, HLE.out]; exact own_mono hown2 (Nat.le_succ _)
          · exact T2.below
        · obtain ⟨j, hj, hoj, hs1, hs2, hvj, _⟩ := ready_facts hrd
          have hg : L.getD i Ev.zero = e := by rw [List.getD_eq_getElem?_getD, hie]; rfl
          have hR := HR.out
          rw [hb] at hR ⊢
          simp only [hg] at hR
          have e1 : (e.o - 1).toNat = j := by omega
          rw [e1] at hR
          obtain ⟨b1, o1, rfl, hb1, x0, x1, x2, x3, x4, x5, x6, x7, x8, x9, x10, x11, x12, x13⟩ := ERows.at_ (HE.out.below (T2.below.mono hB)) hie
          have hcs := cnt_step hrd (List.mem_of_getElem? hie)
          have hlen := HLEN.out
          have hlt : n < L.length := by omega
          have j1 : (0 : Int) ≤ (i : Int) := by omega
          have j2 : (i : Int) < (L.length : Int) := by omega
          have ha : atOf (some i) = (i : Int) := rfl
          have hneg : decide ((i : Int) < 0) = false := by simp
          have o1' : IntKind.i64.wrap (e.o - 1) = (j : Int) := by rw [hoj]; simp; exact IntWalk.i64_in _ (by omega)
          have o2' : e.o - 1 = (j : Int) := by omega
          have k1 : (0 : Int) ≤ (j : Int) := by omega
          have k2 : (j : Int) < 6 := by omega
          have gj := vecA_get v j hj
          have hst := vecA_set v j ((v.get j + 1) % 18446744073709551616) hj
          have hwr : IntKind.u64.wrap (v.get j + 1) = (v.get j + 1) % 18446744073709551616 := IntKind.wrap_u64 _
          obtain ⟨q0, f0, -⟩ := T2.rules
          have l0 := T2.lt
          have HR2 := Lib.hid hR
          have HST := Lib.hid hst
          have HLE := Lib.hid hlen
          have HIE := Lib.hid hie
          clear hb hg hR e1 hcs hst hlen hoj hie hs1 hs2 hvj
          have HZ := Lib.hid (show ∀ W, Below w.heap.size w W → W.cell? ⟨b1, o1 + i * 14, none⟩ = some (.int .i64 e.o) from fun W hW => by
            obtain ⟨b9, o9, hA9, _, z0, -⟩ := ERows.at_ (HE.out.below (hW.mono hB)) HIE.out
            obtain ⟨rfl, rfl⟩ : b1 = b9 ∧ o1 = o9 := by simpa using hA9
            exact z0)
          obtain rfl : out.length = n := HLE.out
          clear HLE
          go_wp2_with (at_builtin; refine append_ev _ rfl (.tmp 46) (.tmp 51) rfl (w.heap.size + 1) _ out e rfl (hown2.alloc _) wr.heap.size rfl (Blk.new _ _ _) (by omega) (by simp; omega) ?_; intro v' w' hown' hb'; have T3 := (T2.alloc (.cells (evA e) 44)).callB hb' (Nat.le_succ _) ⟨by omega, trivial⟩; have z0 := HZ.out _ T3.below; clear q0 f0; obtain ⟨q0, f0, -⟩ := T3.rules)
          have hown4 := own_far (p := ⟨w.heap.size, j, none⟩) hown' (Nat.lt_succ_self _) (.int .u64 ((v.get j + 1) % 18446744073709551616))
          have T4 := T3.set_ (Nat.le_refl _) trivial j (.int .u64 ((v.get j + 1) % 18446744073709551616))
          rw [HST.out] at T4
          have hr := HR2.out
          have hlen2 : (out ++ [e]).length = out.length + 1 := by simp
          refine ⟨⟨out.length + 1, by rw [hr]; exact hlen2, by rw [hr]; rw [hlen2] at hown4; exact hown4, by rw [hr]; exact T4⟩, ?_⟩
          rw [own_len hown', hlen2]
          show _ < L.length - out.length
          omega
end Go.Proofs.Ytbddjnnanbjgfaa
