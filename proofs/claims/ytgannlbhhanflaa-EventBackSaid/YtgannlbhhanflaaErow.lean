/-
  The walk of EventRows.
-/
import Derived.Test.YtgannlbhhanflaaEm
import Derived.Test.YtgannlbhhanflaaEa
import Derived.Test.YtgannlbhhanflaaSm08
namespace Go.Proofs.Ytgannlbhhanflaa
set_option linter.unusedVariables false
set_option linter.unusedSimpArgs false
open Go.RowKit

theorem wf_u16 {n : Int} (h : (Lit.int .u16 n).wf = true) : 0 ≤ n ∧ n ≤ 65535 := by
  simpa [Lit.wf, IntKind.min, IntKind.max, IntKind.signed, IntKind.bits] using h
theorem ecells_take (L : List Ev) (j : Nat) (h : j ≤ L.length) : ecells (L.take j) = (ecells L).take (14 * j) := by
  have e : ecells L = ecells (L.take j) ++ ecells (L.drop j) := by rw [← ecells_append, List.take_append_drop]
  have hl : (ecells (L.take j)).length = 14 * j := by rw [ecells_length, List.length_take]; omega
  rw [e, ← hl, List.take_left]
theorem ERows.take {w : World} {B : Nat} {A : Option Addr} {L : List Ev} (h : ERows w B A L) (j : Nat) (hj : j ≤ L.length) : ERows w B A (L.take j) := by
  refine ⟨ecells_length _, fun hn => ?_⟩
  have hjl : (L.take j).length = j := by rw [List.length_take]; omega
  obtain ⟨b, o, e, hlt, hc⟩ := h.2 (by omega)
  refine ⟨b, o, e, hlt, fun i u hu => hc i u ?_⟩
  rw [ecells_take L j hj, List.getElem?_take] at hu
  split at hu
  · exact hu
  · cases hu
theorem BRows.take {w : World} {B : Nat} {A : Option Addr} {l : List Int} (h : BRows w B A l) (j : Nat) : BRows w B A (l.take j) := fun hne => by
  obtain ⟨b, o, e, hlt, hc⟩ := h (by rintro rfl; simp at hne)
  refine ⟨b, o, e, hlt, fun i u hu => hc i u ?_⟩
  rw [List.getElem?_take] at hu
  split at hu
  · exact hu
  · cases hu
theorem putsE_length_le (L : List Ev) : (putsE L).length ≤ 91 * L.length := by
  induction L with
  | nil => exact Nat.le_refl _
  | cons e L ih =>
    have := putE_length_le e
    simp only [putsE, List.flatMap_cons, List.length_append, List.length_cons] at ih ⊢
    omega
set_option maxHeartbeats 4000000 in
theorem erows_law (A : Option Addr) (c : Nat) (L : List Ev) (n : Int) (n0 : 0 ≤ n) (n1 : n ≤ 65535) (w : World) (hL : ERows w w.heap.size A L) (hc : L.length ≤ c) (hm : c ≤ maxLen) (okL : ∀ e ∈ L, e.ok) :
    Calls Try.prog 8 #[.slice A L.length c, .int .u16 n] w fun r w' => r = .returned (.bool true) ∧ Below w.heap.size w w' := by
  have hm1 : c ≤ 9223372036854775807 := hm
  by_cases hn : 30 < L.length
  · go_enter Try.func8, Try.ntmps8
    go_wp2_with (go_at_call 27; (refine (works08 _).mono ?_); rintro r w1 ⟨rfl, hb⟩)
    go_ret
    exact ⟨rfl, hb⟩
  have HL := Lib.hid hL
  have OK := Lib.hid okL
  clear hL okL
  go_enter Try.func8, Try.ntmps8
  go_wp2_with fail
  go_loopw [5, 6] (fun u i wr => ∃ k : Nat, k ≤ L.length ∧ i = .int .i64 k ∧ (∀ e ∈ L.take k, emayB e = true) ∧ wr.ownsRow w.heap.size 5 1 u (putsE (L.take k)).length (bcells (putsE (L.take k))) ∧ Below w.heap.size w wr) (fun _ i _ => L.length - (intOf i).toNat)
  case atStart => exact ⟨0, by omega, rfl, fun e he => by simp at he, World.ownsRow_nil _ _ _ _, Below.refl _ _⟩
  case round =>
    obtain ⟨k, hk, rfl, hmay, hown, hb⟩ := hrel
    have HM := Lib.hid hmay
    clear hmay
    by_cases hlt : k < L.length
    · obtain ⟨x, hx⟩ : ∃ x, L[k]? = some x := ⟨L[k], List.getElem?_eq_getElem hlt⟩
      have okx := OK.out x (List.mem_of_getElem? hx)
      obtain ⟨b1, o1, rfl, hb1, x0, x1, x2, x3, x4, x5, x6, x7, x8, x9, x10, x11, x12, x13⟩ := ERows.at_ (HL.out.below hb) hx
      have hb2 : b1 < wr.heap.size := Nat.lt_of_lt_of_le hb1 hb.size
      have i1 : (0 : Int) ≤ (k : Int) := by omega
      have i2 : (k : Int) < (L.length : Int) := by omega
      obtain ⟨y, hy⟩ : ∃ y, emayB x = y := ⟨_, rfl⟩
      have C1 := Lib.hid (emay' x okx y hy)
      have hsn : putsE (L.take (k + 1)) = putsE (L.take k) ++ putE x := by rw [List.take_add_one, hx]; exact putsE_snoc _ _
      have hl0 : (putsE (L.take k)).length ≤ 91 * 30 := by have := putsE_length_le (L.take k); rw [List.length_take] at this; omega
      have hl1 := putE_length_le x
      have C2 := Lib.hid (eput x okx)
      generalize hmk : putsE (L.take k) = mk at hown hsn hl0
      generalize hpx : putE x = px at hsn hl1 C2
      have HSN := Lib.hid hsn
      have HX := Lib.hid hx
      have HY := Lib.hid hy
      clear hx hy hsn hmk hpx
      rcases (show y = false ∨ y = true from by cases y <;> simp) with rfl | rfl
      · go_wp2_with fail
        refine (C1.out _).mono ?_
        rintro r w2 ⟨rfl, hb3⟩
        clear x0 x1 x2 x3 x4 x5 x6 x7 x8 x9 x10 x11 x12 x13
        go_wp2_with fail
        refine (works08 _).mono ?_
        rintro r w3 ⟨rfl, hb4⟩
        go_wp2_with fail
        go_ret
        exact ⟨rfl, (hb.trans (hb3.mono hb.size)).trans (hb4.mono (Nat.le_trans hb.size hb3.size))⟩
      · go_wp2_with fail
        refine (C1.out _).mono ?_
        rintro r w2 ⟨rfl, hb3⟩
        have hbb := hb.trans (hb3.mono hb.size)
        have hown2 := ownsRow_below hown hb3
        clear x0 x1 x2 x3 x4 x5 x6 x7 x8 x9 x10 x11 x12 x13 hown hb3
        obtain ⟨b2, o2, hA2, hb2', x0, x1, x2, x3, x4, x5, x6, x7, x8, x9, x10, x11, x12, x13⟩ := ERows.at_ (HL.out.below hbb) HX.out
        obtain ⟨rfl, rfl⟩ : b1 = b2 ∧ o1 = o2 := by simpa using hA2
        have hb2 : b1 < w2.heap.size := Nat.lt_of_lt_of_le hb1 hbb.size
        clear hA2
        go_wp2_with fail
        refine (C2.out _).mono ?_
        rintro r w3 ⟨u3, rfl, hown3, hb4⟩
        obtain ⟨A3, c3, rfl, hc3, hm3, hR3⟩ := own_open hown3
        have hbb3 := hbb.trans (hb4.mono hbb.size)
        have hown4 := ownsRow_below hown2 hb4
        clear x0 x1 x2 x3 x4 x5 x6 x7 x8 x9 x10 x11 x12 x13 hown2 hb4 hown3 hbb hb hb2
        go_wp2_with (at_builtin; refine append_u8s _ rfl (.tmp 27) (.tmp 32) rfl w.heap.size _ mk px rfl hown4 A3 c3 _ rfl (rd_brows hR3) (by omega) hbb3.size ?_; intro v' w' hown' hb')
        go_roundw
        case rel =>
          refine ⟨k + 1, by omega, by go_num, fun e he => ?_, by rw [HSN.out]; exact hown', hbb3.trans hb'⟩
          rw [List.take_add_one, HX.out] at he
          rcases List.mem_append.1 he with he | he
          · exact HM.out e he
          · obtain rfl : e = x := by simpa using he
            exact HY.out
        case measure => simp [intOf]; omega
    · obtain rfl : k = L.length := by omega
      rw [List.take_of_length_le (Nat.le_refl _)] at hown
      have hmay := HM.out
      rw [List.take_of_length_le (Nat.le_refl _)] at hmay
      have hpl := putsE_length hmay
      have hcut := allE_puts_take hmay OK.out
      have hrng := putsE_range L
      generalize putsE L = M at hown hpl hcut hrng
      obtain ⟨A2, c2, rfl, hc2, hm2, hR2⟩ := own_open hown
      have hm2' : c2 ≤ 9223372036854775807 := hm2
      obtain ⟨m, hmm⟩ : ∃ m, m = M.length := ⟨_, rfl⟩
      have hm91 : (m : Int) = 91 * (L.length : Int) := by omega
      have hne : ((m : Int) != 91 * (L.length : Int)) = false := by rw [hm91]; simp
      rw [← hmm] at hc2 hcut
      obtain ⟨j, hj⟩ : ∃ j : Nat, n % ((m : Int) + 1) = j := ⟨(n % ((m : Int) + 1)).toNat, by have := Int.emod_nonneg n (show (m : Int) + 1 ≠ 0 by omega); omega⟩
      have hjm : j ≤ m := by have := Int.emod_lt_of_pos n (show (0 : Int) < (m : Int) + 1 by omega); omega
      have hjl : (M.take j).length = j := by rw [List.length_take]; omega
      have hV := (rd_brows hR2).take j
      have c3 := eall A2 c2 (M.take j) wr.heap.size wr hV (Nat.le_refl _) (by rw [hjl]; omega) hm2 (by rw [hjl]; omega) (fun x hx => hrng x (List.mem_of_mem_take hx))
      rw [hjl, hcut j hjm] at c3
      rw [← hmm]
      have C3 := Lib.hid c3
      have M1 : (m : Int) ≤ 2730 := by omega
      have hq91 : j / 91 ≤ L.length := by omega
      clear c3 hcut hrng hV hR2 hown hpl hmay hm91 hjl hmm
      have j0 : (0 : Int) ≤ (j : Int) := by omega
      have j1 : (j : Int) ≤ (m : Int) := by omega
      have M0 : (0 : Int) < (m : Int) + 1 := by omega
      have ht : Int.tmod n ((m : Int) + 1) = (j : Int) := by rw [Int.tmod_eq_emod_of_nonneg n0]; exact hj
      by_cases hz : j % 91 = 0
      · have c3 := C3.out
        rw [if_pos hz] at c3
        have hz2 : ((j : Int) % 91 != 0) = false := by rw [show (j : Int) % 91 = 0 from by omega]; rfl
        have hz3 : Int.tmod (j : Int) 91 = 0 := by rw [Int.tmod_eq_emod_of_nonneg (by omega)]; omega
        obtain ⟨q, hq⟩ : ∃ q, q = j / 91 := ⟨_, rfl⟩
        have hqL : q ≤ L.length := by omega
        have hq1 : Int.tdiv (j : Int) 91 = (q : Int) := by rw [Int.tdiv_eq_ediv_of_nonneg (by omega)]; omega
        have hq2 : (j : Int) / 91 = (q : Int) := by omega
        rw [← hq] at c3
        have C4 := Lib.hid c3
        have hql : (L.take q).length = q := by rw [List.length_take]; omega
        have HQ := Lib.hid hql
        clear c3 C3 hz hq hql hq91
        go_wp2_with fail
        refine C4.out.mono ?_
        rintro r w2 ⟨u2, rfl, hown2, hb2⟩
        obtain ⟨A4, c4, hu4, hc4, hm4, hR4⟩ := own_open hown2
        have c5 := rsame08 A4 A c4 c w2.heap.size (L.take q) (L.take q) w2 hR4 (ERows.take (((HL.out.below hb).mono hb.size).next hb2) q hqL) (Nat.le_refl _) hc4 hm4 (by rw [HQ.out]; omega) hm
        rw [HQ.out] at c5 hu4
        simp only [decide_true] at c5
        subst hu4
        have hbb := hb.trans (hb2.mono hb.size)
        have C5 := Lib.hid c5
        clear c5 hown2 hR4 hb2
        go_wp2_with fail
        refine C5.out.mono ?_
        rintro r w3 ⟨rfl, hb3⟩
        have hbb3 := hbb.trans (hb3.mono hbb.size)
        go_wp2_with fail
        refine (works08 _).mono ?_
        rintro r w4 ⟨rfl, hb4⟩
        go_wp2_with fail
        go_ret
        exact ⟨rfl, hbb3.trans (hb4.mono hbb3.size)⟩
      · have c3 := C3.out
        rw [if_neg hz] at c3
        have hz2 : ((j : Int) % 91 != 0) = true := by simp [bne]; omega
        have hz3 : (Int.tmod (j : Int) 91 != 0) = true := by rw [Int.tmod_eq_emod_of_nonneg (by omega)]; exact hz2
        have C4 := Lib.hid c3
        clear c3 C3 hz
        go_wp2_with fail
        refine C4.out.mono ?_
        rintro r w2 ⟨u2, rfl, hown2, hb2⟩
        obtain ⟨A4, c4, hu4, hc4, hm4, hR4⟩ := own_open hown2
        have hu4 : u2 = .slice A4 0 c4 := hu4
        subst hu4
        have hbb := hb.trans (hb2.mono hb.size)
        clear hown2 hR4 hb2
        go_wp2_with fail
        refine (works08 _).mono ?_
        rintro r w4 ⟨rfl, hb4⟩
        go_wp2_with fail
        go_ret
        exact ⟨rfl, hbb.trans (hb4.mono hbb.size)⟩
end Go.Proofs.Ytgannlbhhanflaa
