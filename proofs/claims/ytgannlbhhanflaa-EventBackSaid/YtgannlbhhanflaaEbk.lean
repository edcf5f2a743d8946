/-
  The walk of EventBack.
-/
import Derived.Test.YtgannlbhhanflaaErow
import Derived.Test.YtgannlbhhanflaaOwn2
import Derived.Test.YtgannlbhhanflaaEnP
namespace Go.Proofs.Ytgannlbhhanflaa
set_option linter.unusedVariables false
set_option linter.unusedSimpArgs false
open Go.RowKit

theorem putsE_filter (L : List Ev) : putsE (L.filter emayB) = putsE L := by
  induction L with
  | nil => rfl
  | cons e L ih =>
    cases h : emayB e with
    | true =>
      rw [List.filter_cons_of_pos h]
      simp only [putsE, List.flatMap_cons] at ih ⊢
      rw [ih]
    | false =>
      rw [List.filter_cons_of_neg (by simp [h])]
      simp only [putsE, List.flatMap_cons] at ih ⊢
      rw [ih, putE_no h, List.nil_append]
theorem filter_snoc_yes (L : List Ev) (k : Nat) (x : Ev) (hx : L[k]? = some x) (h : emayB x = true) : (L.take (k + 1)).filter emayB = (L.take k).filter emayB ++ [x] := by
  rw [List.take_add_one, hx, List.filter_append]; simp [h]
theorem filter_snoc_no (L : List Ev) (k : Nat) (x : Ev) (hx : L[k]? = some x) (h : emayB x = false) : (L.take (k + 1)).filter emayB = (L.take k).filter emayB := by
  rw [List.take_add_one, hx, List.filter_append]; simp [h]
theorem putsE_take_succ (L : List Ev) (k : Nat) (x : Ev) (hx : L[k]? = some x) : putsE (L.take (k + 1)) = putsE (L.take k) ++ putE x := by rw [List.take_add_one, hx]; exact putsE_snoc _ _
theorem takeE_put {x : Ev} (ox : x.ok) (mx : emayB x = true) (p q : List Int) : takeE (p ++ evL x ++ q) p.length = (x, (p.length : Int) + 91, 0) := by
  have e := readAt_evL ox (may_of mx) p q
  rw [← List.append_assoc] at e
  rw [takeE_yes (by simp [evL_length]) (by rw [e]; exact mx), e]
theorem takeE_zero (l : List Int) (h : ∀ c ∈ l, 0 ≤ c ∧ c ≤ 255) : (takeE l 0).2.2 = 5 ∨ (takeE l 0 = (readAt l 0, 91, 0) ∧ emayB (readAt l 0) = true ∧ (readAt l 0).ok ∧ 91 ≤ l.length ∧ evL (readAt l 0) = l.take 91) := by
  by_cases hs : l.length < 91
  · left
    have : takeE l 0 = (Ev.zero, 0, 5) := takeE_short (by omega) (by omega) (by omega)
    rw [this]
  · cases hy : emayB (readAt l 0) with
    | false =>
      left
      have : takeE l 0 = (Ev.zero, 0, 5) := takeE_no (m := 0) (by omega) hy
      rw [this]
    | true =>
      right
      have hb := evL_readAt (l := l) (m := 0) (by omega) h hy
      rw [List.drop_zero] at hb
      exact ⟨takeE_yes (m := 0) (by omega) hy, rfl, readAt_ok l 0 (by omega) h, by omega, hb⟩
theorem BytesIs.rows {l : List Int} {A : Option Addr} {c : Nat} {w : World} (h : BytesIs l (.slice A l.length c) w) : BRows w w.heap.size A l := by
  obtain ⟨A', c', e, _, _, hr⟩ := h
  injection e with e1 _ _
  rw [e1]; exact hr
theorem append_u8m {ops : Array Oper} {rest : List Oper} {o : Oper} {a : Act} {Q : Exit → Act → World → Prop} (w : World) (hgd : o.guard = none) (s x : Operand)
    (ho : o.op = .call { callee := .builtin .append, args := #[s, x], argTypes := #[43, 43] })
    (base : Nat) (v : Value) (L M : List Int) (m : Nat) (hm : M.length = m) (hs : a.eval s = v) (hown : w.ownsRow base 5 1 v L.length (bcells L)) (A : Option Addr) (c B : Nat) (hx : a.eval x = .slice A m c) (hM : BRows w B A M)
    (hn : L.length + M.length ≤ 1000000000) (hbase : base ≤ w.heap.size)
    (h : ∀ v' w', w'.ownsRow base 5 1 v' (L ++ M).length (bcells (L ++ M)) → Below base w w' → w.grownBy w' v.ownBlock → wpList Try.prog ops Q rest (a.put o.dst v') w') : wpList Try.prog ops Q (o :: rest) a w := by
  subst hm; exact append_u8sG w hgd s x ho base v L M hs hown A c B hx hM hn hbase h
set_option maxRecDepth 100000 in
set_option maxHeartbeats 8000000 in
theorem eback_law (A : Option Addr) (c : Nat) (L : List Ev) (Ah : Option Addr) (ch : Nat) (hd : List Int) (Ar : Option Addr) (cr : Nat) (raw : List Int) (n : Int) (n0 : 0 ≤ n) (n1 : n ≤ 65535) (w : World) (hL : ERows w w.heap.size A L) (hc : L.length ≤ c) (hm : c ≤ maxLen) (okL : ∀ e ∈ L, e.ok)
    (hH : BRows w w.heap.size Ah hd) (hch : hd.length ≤ ch) (hmh : ch ≤ maxLen) (okH : ∀ x ∈ hd, 0 ≤ x ∧ x ≤ 255) (hR : BRows w w.heap.size Ar raw) (hcr : raw.length ≤ cr) (hmr : cr ≤ maxLen) (okR : ∀ x ∈ raw, 0 ≤ x ∧ x ≤ 255) :
    Calls Try.prog 7 #[.slice A L.length c, .slice Ah hd.length ch, .slice Ar raw.length cr, .int .u16 n] w fun r w' => r = .returned (.bool true) ∧ Below w.heap.size w w' := by
  have hm1 : c ≤ 9223372036854775807 := hm
  have hm2 : ch ≤ 9223372036854775807 := hmh
  have hm3 : cr ≤ 9223372036854775807 := hmr
  by_cases hn : 20 < L.length ∨ 300 < hd.length ∨ 3000 < raw.length
  · rcases hn with hn | hn | hn
    all_goals
      go_enter Try.func7, Try.ntmps7
      go_wp2_with (go_at_call 27; (refine (works08 _).mono ?_); rintro r w1 ⟨rfl, hb⟩)
      all_goals
        go_ret
        exact ⟨rfl, hb⟩
  obtain ⟨g1, g2, g3⟩ : L.length ≤ 20 ∧ hd.length ≤ 300 ∧ raw.length ≤ 3000 := by omega
  have HL := Lib.hid hL
  have OK := Lib.hid okL
  have HH := Lib.hid hH
  have OH := Lib.hid okH
  have HR := Lib.hid hR
  have OR := Lib.hid okR
  clear hL okL hH okH hR okR hn
  go_enter Try.func7, Try.ntmps7
  go_wp2_with fail
  go_loopw [9, 10, 11] (fun u v i wr => ∃ k : Nat, k ≤ L.length ∧ i = .int .i64 k ∧ wr.ownsRow w.heap.size 5 1 u (putsE (L.take k)).length (bcells (putsE (L.take k))) ∧ wr.ownsRow w.heap.size 40 14 v ((L.take k).filter emayB).length (ecells ((L.take k).filter emayB)) ∧ Below w.heap.size w wr) (fun _ _ i _ => L.length - (intOf i).toNat)
  case atStart => exact ⟨0, by omega, rfl, World.ownsRow_nil _ _ _ _, World.ownsRow_nil _ _ _ _, Below.refl _ _⟩
  case round =>
    obtain ⟨k, hk, rfl, ownA, ownS, hb⟩ := hrel
    by_cases hlt : k < L.length
    · obtain ⟨x, hx⟩ : ∃ x, L[k]? = some x := ⟨L[k], List.getElem?_eq_getElem hlt⟩
      have okx := OK.out x (List.mem_of_getElem? hx)
      obtain ⟨b1, o1, rfl, hb1, x0, x1, x2, x3, x4, x5, x6, x7, x8, x9, x10, x11, x12, x13⟩ := ERows.at_ (HL.out.below hb) hx
      have hb2 : b1 < wr.heap.size := Nat.lt_of_lt_of_le hb1 hb.size
      have i1 : (0 : Int) ≤ (k : Int) := by omega
      have i2 : (k : Int) < (L.length : Int) := by omega
      obtain ⟨y, hy⟩ : ∃ y, emayB x = y := ⟨_, rfl⟩
      have C1 := Lib.hid (emay' x okx y hy)
      have hsn := putsE_take_succ L k x hx
      have hl0 : (putsE (L.take k)).length ≤ 91 * 20 := by have := putsE_length_le (L.take k); rw [List.length_take] at this; omega
      have hl1 : ((L.take k).filter emayB).length ≤ 20 := by have := List.length_filter_le emayB (L.take k); rw [List.length_take] at this; omega
      have C2 := Lib.hid (eput x okx)
      have HX := Lib.hid hx
      have HY := Lib.hid hy
      have HSN := Lib.hid hsn
      rcases (show y = false ∨ y = true from by cases y <;> simp) with rfl | rfl
      · have hf := filter_snoc_no L k x hx hy
        have HF := Lib.hid hf
        rw [putE_no hy] at C2
        generalize hmk : putsE (L.take k) = mk at ownA
        generalize hsk : (L.take k).filter emayB = sk at ownS
        have HMK := Lib.hid hmk
        have HSK := Lib.hid hsk
        clear hx hy hsn hf hmk hsk hl0 hl1
        go_wp2_with fail
        refine (C2.out _).mono ?_
        rintro r w3 ⟨u3, rfl, hown3, hb4⟩
        obtain ⟨A3, c3, hu, -⟩ := own_open hown3
        have hu : u3 = .slice A3 0 c3 := hu
        subst hu
        have hbb := hb.trans (hb4.mono hb.size)
        have ownA := ownsRow_below ownA hb4
        have ownS := ownsRow_below ownS hb4
        clear x0 x1 x2 x3 x4 x5 x6 x7 x8 x9 x10 x11 x12 x13 hown3 hb4
        obtain ⟨b2, o2, hA2, hb2', x0, x1, x2, x3, x4, x5, x6, x7, x8, x9, x10, x11, x12, x13⟩ := ERows.at_ (HL.out.below hbb) HX.out
        obtain ⟨rfl, rfl⟩ : b1 = b2 ∧ o1 = o2 := by simpa using hA2
        have hb2 : b1 < w3.heap.size := Nat.lt_of_lt_of_le hb1 hbb.size
        clear hA2 hb2'
        go_wp2_with fail
        refine (C1.out _).mono ?_
        rintro r w4 ⟨rfl, hb4⟩
        have hbb4 := hbb.trans (hb4.mono hbb.size)
        have ownA := ownsRow_below ownA hb4
        have ownS := ownsRow_below ownS hb4
        clear x0 x1 x2 x3 x4 x5 x6 x7 x8 x9 x10 x11 x12 x13 hb4
        go_wp2_with fail
        go_roundw
        case rel =>
          have e1 : (mk ++ ([] : List Int)) = mk := List.append_nil _
          refine ⟨k + 1, by omega, by go_num, ?_, ?_, hbb4⟩
          · rw [HSN.out, HMK.out, putE_no HY.out, e1]; exact ownA
          · rw [HF.out, HSK.out]; exact ownS
        case measure => simp [intOf]; omega
      · have hf := filter_snoc_yes L k x hx hy
        have HF := Lib.hid hf
        have htk := takeE_put okx hy hd raw
        have hrng := evL_range (may_of hy)
        rw [putE_yes hy] at C2 HSN
        have hpl := evL_length x
        generalize hpx : evL x = px at C2 HSN htk hrng hpl
        generalize hmk : putsE (L.take k) = mk at ownA HSN hl0
        generalize hsk : (L.take k).filter emayB = sk at ownS HF hl1
        have HPL := Lib.hid hpl
        have HTK := Lib.hid htk
        have HRG := Lib.hid hrng
        clear hx hsn hf hmk hsk hpx hpl htk hrng
        go_wp2_with fail
        refine (C2.out _).mono ?_
        rintro r w3 ⟨u3, rfl, hown3, hb4⟩
        obtain ⟨A3, c3, hu, hc3, hm3', hR3⟩ := own_open hown3
        have hP3 := rd_brows hR3
        rw [HPL.out] at hu hc3
        subst hu
        have hbb := hb.trans (hb4.mono hb.size)
        have ownA := ownsRow_below ownA hb4
        have ownS := ownsRow_below ownS hb4
        have HP3 := Lib.hid hP3
        clear x0 x1 x2 x3 x4 x5 x6 x7 x8 x9 x10 x11 x12 x13 hown3 hb4 hR3 hP3
        obtain ⟨b2, o2, hA2, hb2', x0, x1, x2, x3, x4, x5, x6, x7, x8, x9, x10, x11, x12, x13⟩ := ERows.at_ (HL.out.below hbb) HX.out
        obtain ⟨rfl, rfl⟩ : b1 = b2 ∧ o1 = o2 := by simpa using hA2
        have hb2 : b1 < w3.heap.size := Nat.lt_of_lt_of_le hb1 hbb.size
        clear hA2 hb2'
        go_wp2_with fail
        refine (C1.out _).mono ?_
        rintro r w4 ⟨rfl, hb4⟩
        have hbb4 := hbb.trans (hb4.mono hbb.size)
        have ownA := ownsRow_below ownA hb4
        have ownS := ownsRow_below ownS hb4
        have HP4 := Lib.hid ((HP3.out).below hb4)
        have hz34 := hb4.size
        clear x0 x1 x2 x3 x4 x5 x6 x7 x8 x9 x10 x11 x12 x13 hb4 HP3
        have hwz : w.heap.size ≤ w4.heap.size := hbb4.size
        go_upto_region 12 with fail
        go_wp2_with (first
          | (at_builtin; refine append_u8m _ rfl (.tmp 64) (.tmp 65) rfl w4.heap.size _ [] hd hd.length rfl rfl ?h1 Ah ch w.heap.size rfl ?h2 ?h3 ?h4 ?_; (case h1 => exact World.ownsRow_made w4 #[] 0 (Nat.le_refl _) (by decide) rfl); (case h2 => exact (HH.out.below hbb4).below ((Below.refl _ _).alloc hwz _)); (case h3 => simp; omega); (case h4 => simp); intro v1 wa ownB hba _; rw [List.nil_append] at ownB; have hwa : Below w4.heap.size w4 wa := ((Below.refl _ _).alloc (Nat.le_refl _) _).trans hba; clear hba)
          | (at_builtin; refine append_u8m _ rfl (.tmp 66) (.tmp 67) rfl w4.heap.size v1 hd px 91 HPL.out rfl ownB A3 c3 w3.heap.size rfl (HP4.out.below (hwa.mono hz34)) ?h5 hwa.size ?_; (case h5 => rw [HPL.out]; omega); intro v2 wb ownB2 hbb2 _; have hwb := hwa.trans hbb2; clear hbb2 ownB)
          | (at_builtin; refine append_u8m _ rfl (.tmp 68) (.tmp 69) rfl w4.heap.size v2 (hd ++ px) raw raw.length rfl rfl ownB2 Ar cr w.heap.size rfl ((HR.out.below hbb4).below (hwb.mono hwz)) ?h6 hwb.size ?_; (case h6 => rw [List.length_append, HPL.out]; omega); intro v3 w5 ownB3 hbb3; intro _; have hwc := hwb.trans hbb3; clear hbb3 ownB2))
        obtain ⟨A7, c7, rfl, hc7, hm7, hR7⟩ := own_open ownB3
        have ct := etake A7 c7 (hd ++ px ++ raw) w5.heap.size hd.length w5 (rd_brows hR7) (Nat.le_refl _) hc7 hm7 (fun z hz => by
          rcases List.mem_append.1 hz with hz | hz
          · rcases List.mem_append.1 hz with hz | hz
            · exact OH.out z hz
            · exact HRG.out z hz
          · exact OR.out z hz) (by omega) (by omega)
        rw [HTK.out] at ct
        have ct : Calls Try.prog 30 #[.slice A7 (hd ++ px ++ raw).length c7, .int .i64 (hd.length : Int)] w5 (fun e w' => e = .returned (.tuple #[.agg (evA x), .int .i64 ((hd.length : Int) + 91), .int .i64 0]) ∧ Below w5.heap.size w5 w') := ct
        have CT := Lib.hid ct
        have hb5 := hbb4.trans (hwc.mono hwz)
        have ownA := ownsRow_below ownA hwc
        have ownS := ownsRow_below ownS hwc
        have HP5 := Lib.hid (HP4.out.below (hwc.mono hz34))
        have hz35 : w3.heap.size ≤ w5.heap.size := Nat.le_trans hz34 hwc.size
        obtain ⟨j, hj⟩ : ∃ j : Nat, n % 91 = j := ⟨(n % 91).toNat, by omega⟩
        have hj91 : j < 91 := by omega
        have hjt : Int.tmod n 91 = (j : Int) := by rw [Int.tmod_eq_emod_of_nonneg n0]; exact hj
        have c8 : ∀ W, Calls Try.prog 30 #[.slice A3 j c3, .int .i64 0] W (fun e w' => e = .returned (.tuple #[.agg (evA Ev.zero), .int .i64 0, .int .i64 5]) ∧ Below W.heap.size W w') := fun W => etake_short A3 j c3 0 W (by omega) hm3' (Nat.zero_le _) (by omega)
        have C8 := Lib.hid c8
        have j0 : (0 : Int) ≤ (j : Int) := by omega
        have j1 : (j : Int) ≤ 91 := by omega
        clear ct c8 hR7 ownB3 HP4 hwc hwb hwa
        refine CT.out.mono ?_
        rintro r w6 ⟨rfl, hb6⟩
        have T6 := ((Trk.nil w5).call hb6).push (t := 40) (cs := evA x) rfl
        go_wp2_with fail
        refine (C8.out _).mono ?_
        rintro r w7 ⟨rfl, hb7⟩
        have T7 := (T6.call hb7).push (t := 40) (cs := evA Ev.zero) rfl
        clear hb6 hb7 T6
        go_upto_region 14 with fail
        generalize w7.alloc (.cells (evA Ev.zero) 40) = w8 at T7 ⊢
        generalize w7.heap.size = g7 at T7 ⊢
        generalize w6.heap.size = g6 at T7 ⊢
        have hb8 := hb5.trans (T7.below.mono hb5.size)
        obtain ⟨b2, o2, hA2, hb2', x0, x1, x2, x3, x4, x5, x6, x7, x8, x9, x10, x11, x12, x13⟩ := ERows.at_ (HL.out.below hb8) HX.out
        obtain ⟨rfl, rfl⟩ : b1 = b2 ∧ o1 = o2 := by simpa using hA2
        have hb2 : b1 < w8.heap.size := Nat.lt_of_lt_of_le hb1 hb8.size
        clear hA2 hb2'
        obtain ⟨q7, -, q6, -, -⟩ := T7.rules
        obtain ⟨l7, l6, -⟩ := T7.lts
        have hs1 : IntKind.i64.wrap ((hd.length : Int) + 91) = (hd.length : Int) + 91 := IntWalk.i64_in _ (by omega)
        go_quiet (fail)
        have T8 := T7.drewN nq
        have ownA := ownsRow_below ownA T8.below
        have ownS := ownsRow_below ownS T8.below
        have HP8 := Lib.hid (HP5.out.below (T8.below.mono hz35))
        have hb9 := hb5.trans (T8.below.mono hb5.size)
        generalize w8.drewN nq = w9 at ownA ownS HP8 hb9 ⊢
        clear x0 x1 x2 x3 x4 x5 x6 x7 x8 x9 x10 x11 x12 x13 q7 q6 l7 l6 T7 T8 hb8 hb2 hs1 HP5 hj hjt
        go_wp2_with (first
          | (at_builtin; refine append_u8m _ rfl (.tmp 112) (.tmp 113) rfl w.heap.size _ mk px 91 HPL.out rfl ownA A3 c3 w3.heap.size rfl HP8.out ?h5 hb9.size ?_; (case h5 => rw [HPL.out]; omega); intro v1 wa ownA2 hba hga; have ownS2 := ownS.kept hga (own_apart ownS ownA (by decide)); have hb10 := hb9.trans hba; have hb2 : b1 < wa.heap.size := Nat.lt_of_lt_of_le hb1 hb10.size; (obtain ⟨b2, o2, hA2, hb2', x0, x1, x2, x3, x4, x5, x6, x7, x8, x9, x10, x11, x12, x13⟩ := ERows.at_ (HL.out.below hb10) HX.out); (obtain ⟨rfl, rfl⟩ : b1 = b2 ∧ o1 = o2 := by simpa using hA2); clear hA2 hb2' hga hba ownA ownS)
          | (at_builtin; refine append_evG _ rfl (.tmp 115) (.tmp 120) rfl w.heap.size _ sk x rfl (ownS2.alloc _) wa.heap.size rfl (Blk.new _ _ _) (by omega) (by have := hb10.size; simp; omega) ?_; intro v2 wb ownS3 hbb2 hgb))
        have ownA3 := (ownA2.alloc (.cells (evA x) 40)).kept hgb (own_apart (ownA2.alloc (.cells (evA x) 40)) (ownS2.alloc (.cells (evA x) 40)) (by decide))
        go_roundw
        case rel =>
          refine ⟨k + 1, by omega, by go_num, ?_, ?_, (hb10.alloc hb10.size _).trans hbb2⟩
          · rw [HSN.out]; exact ownA3
          · rw [HF.out]; exact ownS3
        case measure => simp [intOf]; omega
    · obtain rfl : k = L.length := by omega
      rw [List.take_of_length_le (Nat.le_refl _)] at ownA ownS
      have hSm : ∀ e ∈ L.filter emayB, emayB e = true := fun e he => (List.mem_filter.1 he).2
      have hSo : ∀ e ∈ L.filter emayB, e.ok := fun e he => OK.out e (List.mem_filter.1 he).1
      have hpl := putsE_length hSm
      have hpt := allE_puts_take hSm hSo (putsE (L.filter emayB)).length (Nat.le_refl _)
      rw [List.take_of_length_le (Nat.le_refl _), hpl, if_pos (by omega), Nat.mul_div_cancel_left _ (by omega), List.take_of_length_le (Nat.le_refl _)] at hpt
      have hone : allE (putsE (L.filter emayB) ++ [1]) = ([], 5) := allE_len (by rw [List.length_append, hpl]; have : ([1] : List Int).length = 1 := rfl; omega)
      have hrng := putsE_range L
      have hsl := List.length_filter_le emayB L
      rw [putsE_filter] at hpt hone hpl
      generalize putsE L = M at ownA hpt hone hrng hpl
      generalize L.filter emayB = S at ownS hpt hpl hsl
      clear hSm hSo
      obtain ⟨A2, c2, rfl, hc2, hm2', hR2⟩ := own_open ownA
      obtain ⟨A4, c4, rfl, hc4, hm4', hR4⟩ := own_open ownS
      have ca := eall A2 c2 M wr.heap.size wr (rd_brows hR2) (Nat.le_refl _) hc2 hm2' (by omega) hrng
      rw [hpt] at ca
      have CA := Lib.hid ca
      have HO := Lib.hid hone
      have HG := Lib.hid hrng
      have HB2 := Lib.hid (rd_brows hR2)
      have HS4 : Hid (ERows wr wr.heap.size A4 S) := Lib.hid hR4
      have hml : M.length ≤ 1820 := by omega
      clear ca hone hrng hpt hR2 hR4 ownA ownS hpl
      go_wp2_with fail
      refine CA.out.mono ?_
      rintro r w2 ⟨u2, rfl, hown2, hb2⟩
      obtain ⟨A5, c5, rfl, hc5, hm5, hR5⟩ := own_open hown2
      have HS5 : Hid (ERows w2 w2.heap.size A5 S) := Lib.hid hR5
      have hbb2 := hb.trans (hb2.mono hb.size)
      have HB3 := Lib.hid (HB2.out.below hb2)
      have HS43 := Lib.hid (HS4.out.below hb2)
      have hz2 := hb2.size
      clear hown2 hR5 CA HB2 HS4 hb2
      go_wp2_with (first
        | (at_builtin; refine append_u8m _ rfl (.tmp 128) (.tmp 129) rfl w2.heap.size _ [] M M.length rfl rfl ?h1 A2 c2 wr.heap.size rfl ?h2 ?h3 ?h4 ?_; (case h1 => exact World.ownsRow_made w2 #[] 0 (Nat.le_refl _) (by decide) rfl); (case h2 => exact HB3.out.below ((Below.refl _ _).alloc hz2 _)); (case h3 => simp; omega); (case h4 => simp); intro v1 wa ownB hba _; rw [List.nil_append] at ownB; have hwa : Below w2.heap.size w2 wa := ((Below.refl _ _).alloc (Nat.le_refl _) _).trans hba; clear hba)
        | (at_builtin; refine append_u8 _ rfl (.tmp 130) (.tmp 131) rfl w2.heap.size v1 M 1 rfl (ownB.alloc _) wa.heap.size rfl (Blk.new _ _ _) (by omega) (by have := hwa.size; simp; omega) ?_; intro v3 w3 ownB2 hbb3; have hwb := (hwa.alloc hwa.size _).trans hbb3; clear hbb3 ownB hwa))
      obtain ⟨A6, c6, rfl, hc6, hm6, hR6⟩ := own_open ownB2
      have ca := eall A6 c6 (M ++ [1]) w3.heap.size w3 (rd_brows hR6) (Nat.le_refl _) hc6 hm6 (by rw [List.length_append]; have : ([1] : List Int).length = 1 := rfl; omega) (fun z hz => by
        rcases List.mem_append.1 hz with hz | hz
        · exact HG.out z hz
        · obtain rfl : z = 1 := by simpa using hz
          omega)
      rw [HO.out] at ca
      have CA := Lib.hid ca
      clear ca hR6 ownB2
      refine CA.out.mono ?_
      rintro r w4 ⟨u4, rfl, -, hb4⟩
      have hbb4 : Below w2.heap.size w2 w4 := hwb.trans (hb4.mono hwb.size)
      have cs := rsame08 A5 A4 c5 c4 w4.heap.size S S w4 ((HS5.out.below hbb4).mono hbb4.size) ((HS43.out.below (hbb4.mono hz2)).mono (Nat.le_trans hz2 hbb4.size)) (Nat.le_refl _) hc5 hm5 hc4 hm4'
      simp only [decide_true] at cs
      have CS := Lib.hid cs
      have hbw := hbb2.trans (hbb4.mono hbb2.size)
      clear cs hb4 hwb CA
      go_wp2_with fail
      refine CS.out.mono ?_
      rintro r w5 ⟨rfl, hb5⟩
      have hbw5 := hbw.trans (hb5.mono hbw.size)
      have ct := etake Ar cr raw w.heap.size 0 w5 (HR.out.below hbw5) hbw5.size hcr hmr OR.out (by decide) (by decide)
      clear hb5 CS HS5 HS43 HB3
      have HT := takeE_zero raw OR.out
      rcases HT with h5 | ⟨ht, hy, hxo, h91, hev⟩
      · obtain ⟨X, nx, hX⟩ : ∃ X nx, takeE raw 0 = (X, nx, 5) := ⟨_, _, by rw [← h5]⟩
        rw [hX] at ct
        have ct : Calls Try.prog 30 #[.slice Ar raw.length cr, .int .i64 0] w5 (fun e w' => e = .returned (.tuple #[.agg (evA X), .int .i64 nx, .int .i64 5]) ∧ Below w5.heap.size w5 w') := ct
        have CT := Lib.hid ct
        clear ct h5 hX
        go_wp2_with fail
        refine CT.out.mono ?_
        rintro r w6 ⟨rfl, hb6⟩
        have T6 := ((Trk.nil w5).call hb6).push (t := 40) (cs := evA X) rfl
        clear hb6
        go_wp2_with fail
        refine (works08 _).mono ?_
        rintro r w7 ⟨rfl, hb7⟩
        have T7 := T6.call hb7
        go_wp2_with fail
        go_ret
        exact ⟨rfl, hbw5.trans (T7.below.mono hbw5.size)⟩
      · rw [ht] at ct
        generalize readAt raw 0 = X at ct hy hxo hev
        have ct : Calls Try.prog 30 #[.slice Ar raw.length cr, .int .i64 0] w5 (fun e w' => e = .returned (.tuple #[.agg (evA X), .int .i64 91, .int .i64 0]) ∧ Below w5.heap.size w5 w') := ct
        have CT := Lib.hid ct
        have c5 := fun W => eput X hxo W
        rw [putE_yes hy, hev] at c5
        have C5 := Lib.hid c5
        have C6 := Lib.hid (emay' X hxo true hy)
        have hB9 : BytesIs (raw.take 91) (.slice Ar 91 cr) w5 := by
          have h9 : (raw.take 91).length = 91 := by rw [List.length_take]; omega
          exact ⟨Ar, cr, by rw [h9], by rw [h9]; omega, hmr, ((BRows.take (HR.out.below hbw5) 91) |> fun h hne => by obtain ⟨b, o, e, hlt, hcc⟩ := h hne; exact ⟨b, o, e, Nat.lt_of_lt_of_le hlt hbw5.size, hcc⟩)⟩
        have HB9 := Lib.hid hB9
        generalize hr9 : raw.take 91 = R at C5 HB9
        clear ct c5 hy hxo hev ht hB9 hr9
        have h91' : (91 : Int) ≤ (raw.length : Int) := by omega
        have h91c : (91 : Int) ≤ (cr : Int) := by omega
        have h91n : 91 ≤ cr := by omega
        have h91m : ¬ cr < 91 := by omega
        have h91d : ¬ (cr : Int) < 91 := by omega
        go_wp2_with fail
        refine CT.out.mono ?_
        rintro r w6 ⟨rfl, hb6⟩
        have T6 := ((Trk.nil w5).call hb6).push (t := 40) (cs := evA X) rfl
        have hB := HB9.out.keep _ _ _ _ T6.below
        have HB10 := Lib.hid hB
        clear hb6 hB HB9
        go_upto_region 25 with fail
        generalize w6.alloc (.cells (evA X) 40) = w7 at T6 HB10 ⊢
        generalize w6.heap.size = g6 at T6 ⊢
        have S4 := HB10.out
        refine lw_region [.is (.agg (evA X)), .is (.bool true), .is (.bool true), .is (.int .i64 91), .is (.slice Ar raw.length cr), .is (.int .i64 (raw.length : Int)), .is (.bool true), .is (.bool true), .is (.bool true), .is (.agg (evA X)), .bytes R, .is (.string (strOfNums R)), .is (.slice Ar raw.length cr), .is (.int .i64 91), .is (.int .i64 91), .is (.slice Ar 91 cr), .is (.string (strOfNums R)), .is (.bool true), .is (.bool true), .is (.bool true), .is (.bool true), .is (.bool true), .is (.bool true)] (by kernel_rfl) (by kernel_rfl) ?_
        repeat
          first
            | refine lw_skip rfl ?_
            | refine lw_loade T6 rfl _ rfl _ _ rfl rfl (by simp) ?_
            | refine lw_move rfl _ rfl _ rfl rfl ?_
            | refine lw_assign rfl _ rfl _ rfl rfl ?_
            | refine lw_pickT rfl _ _ _ rfl rfl _ rfl rfl ?_
            | refine lw_conv rfl _ rfl _ rfl _ S4 rfl ?_
            | refine lw_convR rfl _ rfl 10 _ rfl (by rfl) (by repeat (first | exact Or.inl ⟨rfl, rfl⟩ | apply Or.inr)) _ rfl rfl ?_
            | ((refine lw_call rfl 26 #[.agg (evA X)] _ rfl ?_ (fun w _ => C6.out w) ?_); (· intro w; simp [go_sem] <;> rfl))
            | ((refine lw_call_rel rfl 29 #[.agg (evA X)] _ _ rfl ?_ (fun w _ => gives_rel (C5.out w)) ?_); (· intro w; simp [go_sem] <;> rfl); intro z)
            | ((refine lw_call rfl 27 #[] _ rfl ?_ (fun w _ => works08 w) ?_); (· intro w; simp [go_sem] <;> rfl))
            | ((refine lw_bin rfl _ _ _ _ _ rfl _ _ rfl rfl _ rfl ?_ ?_); (· intro ρ w h1 h2; simp [execOp, h1, h2, go_sem, h91']))
            | ((refine lw_val rfl _ rfl ?_ ?_); (· intro w hw; simp [execOp, go_sem, h91', h91c, h91n, h91m, h91d]; done))
          simp only [Act.put, List.setIfInBounds_toArray, List.set_cons_succ, List.set_cons_zero]
        intro w8 hb8
        have T8 := T6.call hb8
        go_wp2_with fail
        go_ret
        exact ⟨rfl, hbw5.trans (T8.below.mono hbw5.size)⟩
end Go.Proofs.Ytgannlbhhanflaa
