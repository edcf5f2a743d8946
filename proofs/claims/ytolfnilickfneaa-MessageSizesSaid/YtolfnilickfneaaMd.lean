/-
  The walk of the document's leatref20: Put.
-/
import Derived.Test.YtolfnilickfneaaMr
import Derived.Test.YtolfnilickfneaaGE
import Derived.Test.YtolfnilickfneaaGK
import Derived.Test.YtolfnilickfneaaGI
namespace Go.Proofs.Ytolfnilickfneaa
set_option linter.unusedVariables false
set_option linter.unusedSimpArgs false
open Go.RowKit
set_option maxRecDepth 100000

theorem rput20_no (m : Ms) (o : m.ok) (h : mmayB m = false) (A : Option Addr) (c : Nat) (w : World) (hL : ERows w w.heap.size A m.l) (hc : m.l.length ≤ c) (hm : c ≤ maxLen) : Calls Try.prog 45 #[.agg (mcA ⟨m.k, m.f, m.t, m.d, .slice A m.l.length c, m.n, m.a⟩)] w (GivesB [] w) := by
  have C1 := Lib.hid fun (W : World) (hW : Below w.heap.size w W) => rmay20' m o false h A c W (hL.next hW) hc hm
  clear h o hL
  go_enter Try.func45, Try.ntmps45
  go_wp2_with fail
  have T0 : Trk w _ [(w.heap.size, 54, mcA ⟨m.k, m.f, m.t, m.d, .slice A m.l.length c, m.n, m.a⟩)] := (Trk.nil w).push (t := 54) (cs := mcA ⟨m.k, m.f, m.t, m.d, .slice A m.l.length c, m.n, m.a⟩) rfl
  refine (C1.out _ T0.below).mono ?_
  rintro r w1 ⟨rfl, hb1⟩
  have T1 := T0.call hb1
  clear T0 hb1
  go_wp2_with fail
  go_ret
  exact ⟨_, rfl, World.ownsRow_nil _ _ _ _, T1.below⟩
set_option maxHeartbeats 4000000 in
theorem rput20_yes1 (m : Ms) (o : m.ok) (h : mmayB m = true) (hk : m.k = 1) (A : Option Addr) (c : Nat) (w : World) (hL : ERows w w.heap.size A m.l) (hc : m.l.length ≤ c) (hm : c ≤ maxLen) : Calls Try.prog 45 #[.agg (mcA ⟨m.k, m.f, m.t, m.d, .slice A m.l.length c, m.n, m.a⟩)] w (GivesB (headM m ++ tailM m) w) := by
  have hm1 : c ≤ 9223372036854775807 := hm
  have C1 := Lib.hid fun (W : World) (hW : Below w.heap.size w W) => rmay20' m o true h A c W (hL.next hW) hc hm
  have hmay := mayM_of h
  have hK := hmay.k
  have C3 := Lib.hid (fun W => rbytes m.d o.d W)
  have hf : IntKind.u8.wrap m.f = m.f := by have := hmay.f; rw [IntKind.wrap_u8]; omega
  have ht : IntKind.u8.wrap m.t = m.t := by have := hmay.t; rw [IntKind.wrap_u8]; omega
  have ha : IntKind.u64.wrap m.a = m.a := by rw [IntKind.wrap_u64]; rcases hmay.k with ⟨_, _, _, _, h⟩ | ⟨_, _, _, h, h2⟩ <;> omega
  have HA := Lib.hid ha
  clear ha
  have HF := Lib.hid hf
  have HT := Lib.hid ht
  have HL := Lib.hid hL
  have OK := Lib.hid o
  clear hf ht h hL hmay o
  obtain ⟨k, f, t, d, L, n, a⟩ := m
  simp only at *
  subst hk
  have HK := Lib.hid hK
  clear hK
  go_enter Try.func45, Try.ntmps45
  go_wp2_with fail
  have T0 : Trk w _ [(w.heap.size, 54, mcA ⟨1, f, t, d, .slice A L.length c, n, a⟩)] := (Trk.nil w).push (t := 54) (cs := mcA ⟨1, f, t, d, .slice A L.length c, n, a⟩) rfl
  have hsz : w.heap.size + 1 ≤ (w.alloc (.cells (mcA ⟨1, f, t, d, .slice A L.length c, n, a⟩) 54)).heap.size := by simp
  refine (C1.out _ T0.below).mono ?_
  rintro r w1 ⟨rfl, hb1⟩
  have T1 := T0.call hb1
  have hs1 := Nat.le_trans hsz hb1.size
  clear T0 hb1 hsz
  go_upto_region 3 with fail
  have hl1 : ([1, f, t] : List Int).length = 3 := rfl
  have hl2 : (vecL d).length = 48 := rfl
  refine sw_region (w.heap.size + 1) [.is (.pointer (some ⟨w.heap.size, 0, none⟩)), .is (.int .u8 1), .is (.pointer (some ⟨w.heap.size, 1, none⟩)), .is (.int .i64 f), .is (.int .u8 f), .is (.pointer (some ⟨w.heap.size, 2, none⟩)), .is (.int .i64 t), .is (.int .u8 t), .bytes (w.heap.size + 1) [1, f, t], .is (.pointer (some ⟨w.heap.size, 3, none⟩)), .is (.agg (vecA d)), .bytes (w.heap.size + 1) (vecL d), .bytes (w.heap.size + 1) ([1, f, t] ++ vecL d), .bytes (w.heap.size + 1) ([1, f, t] ++ vecL d)] [(8, 12), (12, 13)] (fun _ _ => False) (by kernel_rfl) (by kernel_rfl) inv_none ?_
  refine sw_val rfl _ rfl (fun W hb => ?_) ?_
  · obtain ⟨x0, -, -⟩ := (T1.callB hb (Nat.le_succ _) ⟨Nat.lt_succ_self _, trivial⟩).rules
    obtain ⟨y0, -⟩ := (T1.callB hb (Nat.le_succ _) ⟨Nat.lt_succ_self _, trivial⟩).lts
    simp [execOp, go_sem, x0, y0, HF.out, HT.out]
  simp only [Act.put, List.setIfInBounds_toArray, List.set_cons_succ, List.set_cons_zero]
  refine sw_val rfl _ rfl (fun W hb => ?_) ?_
  · obtain ⟨x0, -, -⟩ := (T1.callB hb (Nat.le_succ _) ⟨Nat.lt_succ_self _, trivial⟩).rules
    obtain ⟨y0, -⟩ := (T1.callB hb (Nat.le_succ _) ⟨Nat.lt_succ_self _, trivial⟩).lts
    simp [execOp, go_sem, x0, y0, HF.out, HT.out]
  simp only [Act.put, List.setIfInBounds_toArray, List.set_cons_succ, List.set_cons_zero]
  refine sw_val rfl _ rfl (fun W hb => ?_) ?_
  · obtain ⟨x0, -, -⟩ := (T1.callB hb (Nat.le_succ _) ⟨Nat.lt_succ_self _, trivial⟩).rules
    obtain ⟨y0, -⟩ := (T1.callB hb (Nat.le_succ _) ⟨Nat.lt_succ_self _, trivial⟩).lts
    simp [execOp, go_sem, x0, y0, HF.out, HT.out]
  simp only [Act.put, List.setIfInBounds_toArray, List.set_cons_succ, List.set_cons_zero]
  refine sw_val rfl _ rfl (fun W hb => ?_) ?_
  · obtain ⟨x0, -, -⟩ := (T1.callB hb (Nat.le_succ _) ⟨Nat.lt_succ_self _, trivial⟩).rules
    obtain ⟨y0, -⟩ := (T1.callB hb (Nat.le_succ _) ⟨Nat.lt_succ_self _, trivial⟩).lts
    simp [execOp, go_sem, x0, y0, HF.out, HT.out]
  simp only [Act.put, List.setIfInBounds_toArray, List.set_cons_succ, List.set_cons_zero]
  refine sw_val rfl _ rfl (fun W hb => ?_) ?_
  · obtain ⟨x0, -, -⟩ := (T1.callB hb (Nat.le_succ _) ⟨Nat.lt_succ_self _, trivial⟩).rules
    obtain ⟨y0, -⟩ := (T1.callB hb (Nat.le_succ _) ⟨Nat.lt_succ_self _, trivial⟩).lts
    simp [execOp, go_sem, x0, y0, HF.out, HT.out]
  simp only [Act.put, List.setIfInBounds_toArray, List.set_cons_succ, List.set_cons_zero]
  refine sw_val rfl _ rfl (fun W hb => ?_) ?_
  · obtain ⟨x0, -, -⟩ := (T1.callB hb (Nat.le_succ _) ⟨Nat.lt_succ_self _, trivial⟩).rules
    obtain ⟨y0, -⟩ := (T1.callB hb (Nat.le_succ _) ⟨Nat.lt_succ_self _, trivial⟩).lts
    simp [execOp, go_sem, x0, y0, HF.out, HT.out]
  simp only [Act.put, List.setIfInBounds_toArray, List.set_cons_succ, List.set_cons_zero]
  refine sw_val rfl _ rfl (fun W hb => ?_) ?_
  · obtain ⟨x0, -, -⟩ := (T1.callB hb (Nat.le_succ _) ⟨Nat.lt_succ_self _, trivial⟩).rules
    obtain ⟨y0, -⟩ := (T1.callB hb (Nat.le_succ _) ⟨Nat.lt_succ_self _, trivial⟩).lts
    simp [execOp, go_sem, x0, y0, HF.out, HT.out]
  simp only [Act.put, List.setIfInBounds_toArray, List.set_cons_succ, List.set_cons_zero]
  refine sw_val rfl _ rfl (fun W hb => ?_) ?_
  · obtain ⟨x0, -, -⟩ := (T1.callB hb (Nat.le_succ _) ⟨Nat.lt_succ_self _, trivial⟩).rules
    obtain ⟨y0, -⟩ := (T1.callB hb (Nat.le_succ _) ⟨Nat.lt_succ_self _, trivial⟩).lts
    simp [execOp, go_sem, x0, y0, HF.out, HT.out]
  simp only [Act.put, List.setIfInBounds_toArray, List.set_cons_succ, List.set_cons_zero]
  refine sw_lit3 rfl _ _ _ rfl _ _ _ rfl rfl rfl rfl hs1 ?_
  intro z8
  simp only [Act.put, List.setIfInBounds_toArray, List.set_cons_succ, List.set_cons_zero]
  refine sw_val rfl _ rfl (fun W hb => ?_) ?_
  · obtain ⟨x0, -, -⟩ := (T1.callB hb (Nat.le_succ _) ⟨Nat.lt_succ_self _, trivial⟩).rules
    obtain ⟨y0, -⟩ := (T1.callB hb (Nat.le_succ _) ⟨Nat.lt_succ_self _, trivial⟩).lts
    simp [execOp, go_sem, x0, y0, HF.out, HT.out]
  simp only [Act.put, List.setIfInBounds_toArray, List.set_cons_succ, List.set_cons_zero]
  refine sw_val rfl _ rfl (fun W hb => ?_) ?_
  · obtain ⟨x0, -, -⟩ := (T1.callB hb (Nat.le_succ _) ⟨Nat.lt_succ_self _, trivial⟩).rules
    obtain ⟨y0, -⟩ := (T1.callB hb (Nat.le_succ _) ⟨Nat.lt_succ_self _, trivial⟩).lts
    simp [execOp, go_sem, x0, y0, HF.out, HT.out]
  simp only [Act.put, List.setIfInBounds_toArray, List.set_cons_succ, List.set_cons_zero]
  refine sw_call_bytes rfl 70 #[.agg (vecA d)] _ rfl hs1 ?_ (fun w => C3.out w) ?_
  · intro W; simp [go_sem] <;> rfl
  intro z11
  simp only [Act.put, List.setIfInBounds_toArray, List.set_cons_succ, List.set_cons_zero]
  refine sw_append_u8 rfl _ _ rfl 8 11 z8 z11 [1, f, t] (vecL d) rfl rfl rfl rfl (.inl rfl) (by repeat (first | exact Or.inl ⟨rfl, rfl⟩ | exact ⟨rfl, rfl⟩ | apply Or.inr)) (by repeat (first | exact Or.inl ⟨rfl, rfl⟩ | exact ⟨rfl, rfl⟩ | apply Or.inr)) (.inl (need_of rfl)) (.inl (need_of rfl)) rfl rfl (by first | omega | (simp only [List.length_append]; omega)) hs1 ?_
  intro z12
  simp only [Act.put, List.setIfInBounds_toArray, List.set_cons_succ, List.set_cons_zero]
  refine sw_pass rfl _ rfl 12 z12 ([1, f, t] ++ vecL d) rfl rfl rfl (by repeat (first | exact Or.inl ⟨rfl, rfl⟩ | exact ⟨rfl, rfl⟩ | apply Or.inr)) (.inl (need_of rfl)) rfl ?_
  intro z13
  simp only [Act.put, List.setIfInBounds_toArray, List.set_cons_succ, List.set_cons_zero]
  intro w2 ls hb2 hJ
  have own2 := inv_row (k := 13) (u := z13) (L := ([1, f, t] ++ vecL d)) hJ (by repeat (first | exact Or.inl ⟨rfl, rfl⟩ | exact ⟨rfl, rfl⟩ | apply Or.inr)) rfl rfl
  have T2 := T1.callB hb2 (Nat.le_succ _) ⟨Nat.lt_succ_self _, trivial⟩
  have hs2 := Nat.le_trans hs1 hb2.size
  clear T1 hJ hb2 hs1
  have HH := Lib.hid (show [1, f, t] ++ vecL d = headM ⟨1, f, t, d, L, n, a⟩ from rfl)
  generalize hh : [1, f, t] ++ vecL d = hd at own2 HH
  have hhl : hd.length ≤ 51 := by rw [HH.out]; exact Nat.le_refl _
  clear hh hl1 hl2 C1 C3
  have hl16 : L.length ≤ 16 := by
    rcases HK.out with ⟨_, _, h16, _⟩ | ⟨h1, _⟩
    · exact h16
    · cases h1
  obtain ⟨q0, -, -⟩ := T2.rules
  obtain ⟨l0, -⟩ := T2.lts
  go_wp2_with fail
  go_loopw [3, 4] (fun b i wr => ∃ k : Nat, k ≤ L.length ∧ i = .int .i64 k ∧ wr.ownsRow (w.heap.size + 1) 5 1 b (hd ++ putsE (L.take k)).length (bcells (hd ++ putsE (L.take k))) ∧ Trk w wr [(w.heap.size, 54, mcA ⟨1, f, t, d, .slice A L.length c, n, a⟩)]) (fun _ i _ => L.length - (intOf i).toNat)
  case atStart => exact ⟨0, by omega, rfl, by simpa [putsE] using own2, T2⟩
  case round =>
    clear own2 T2 q0 l0 hs2
    obtain ⟨k, hk, rfl, hown, T⟩ := hrel
    obtain ⟨q0, -, -⟩ := T.rules
    obtain ⟨l0, -⟩ := T.lts
    by_cases hlt : k < L.length
    · obtain ⟨x, hx⟩ : ∃ x, L[k]? = some x := ⟨L[k], List.getElem?_eq_getElem hlt⟩
      have okx := OK.out.l x (List.mem_of_getElem? hx)
      obtain ⟨b1, o1, rfl, hb1, x0, x1, x2, x3, x4, x5, x6, x7, x8, x9, x10, x11, x12, x13⟩ := ERows.at_ (HL.out.below T.below) hx
      have hsz := T.below.size
      have hb2 : b1 < wr.heap.size := by omega
      have i1 : (0 : Int) ≤ (k : Int) := by omega
      have i2 : (k : Int) < (L.length : Int) := by omega
      have hsn : putsE (L.take (k + 1)) = putsE (L.take k) ++ putE x := by rw [List.take_add_one, hx]; exact putsE_snoc _ _
      have hl0 : (putsE (L.take k)).length ≤ 91 * 16 := by have := putsE_length_le' (L.take k); rw [List.length_take] at this; omega
      have hl1 := putE_length_le x
      have C2 := Lib.hid (rput8 x okx)
      have hln : (hd ++ putsE (L.take k)).length ≤ 2000 := by rw [List.length_append]; omega
      have e1 : hd ++ putsE (L.take (k + 1)) = (hd ++ putsE (L.take k)) ++ putE x := by rw [hsn, List.append_assoc]
      have E1 := Lib.hid e1
      generalize hmk : hd ++ putsE (L.take k) = mk at hown hln E1
      generalize hpx : putE x = px at hl1 C2 E1
      clear hx hsn hmk hpx hl0 e1
      go_wp2_with fail
      refine (C2.out _).mono ?_
      rintro r w4 ⟨u4, rfl, hown4, hb4⟩
      obtain ⟨A4, c4, rfl, -, -, hR4⟩ := own_open hown4
      have hown5 := ownsRow_below hown hb4
      have T5 := T.call hb4
      clear hown4 hown hb4 x0 x1 x2 x3 x4 x5 x6 x7 x8 x9 x10 x11 x12 x13 T q0 l0
      have l5 := T5.lt
      go_wp2_with (at_builtin; refine append_u8s _ rfl (.tmp 39) (.tmp 45) rfl (w.heap.size + 1) _ mk px rfl hown5 A4 c4 _ rfl (rd_brows hR4) (by omega) (by omega) ?_; intro v' w' hown' hb')
      go_roundw
      case rel => exact ⟨k + 1, by omega, by go_num, by rw [E1.out]; exact hown', T5.callB hb' (Nat.le_succ _) ⟨Nat.lt_succ_self _, trivial⟩⟩
      case measure => simp [intOf]; omega
    · obtain rfl : k = L.length := by omega
      rw [List.take_of_length_le (Nat.le_refl _)] at hown
      go_wp2_with fail
      go_ret
      refine ⟨_, rfl, ?_, T.below⟩
      rw [show tailM ⟨1, f, t, d, L, n, a⟩ = putsE L from rfl, ← HH.out]
      exact own_mono hown (Nat.le_succ _)
set_option maxHeartbeats 4000000 in
theorem rput20_yes2 (m : Ms) (o : m.ok) (h : mmayB m = true) (hk : m.k = 2) (A : Option Addr) (c : Nat) (w : World) (hL : ERows w w.heap.size A m.l) (hc : m.l.length ≤ c) (hm : c ≤ maxLen) : Calls Try.prog 45 #[.agg (mcA ⟨m.k, m.f, m.t, m.d, .slice A m.l.length c, m.n, m.a⟩)] w (GivesB (headM m ++ tailM m) w) := by
  have hm1 : c ≤ 9223372036854775807 := hm
  have C1 := Lib.hid fun (W : World) (hW : Below w.heap.size w W) => rmay20' m o true h A c W (hL.next hW) hc hm
  have hmay := mayM_of h
  have hK := hmay.k
  have C3 := Lib.hid (fun W => rbytes m.d o.d W)
  have hf : IntKind.u8.wrap m.f = m.f := by have := hmay.f; rw [IntKind.wrap_u8]; omega
  have ht : IntKind.u8.wrap m.t = m.t := by have := hmay.t; rw [IntKind.wrap_u8]; omega
  have ha : IntKind.u64.wrap m.a = m.a := by rw [IntKind.wrap_u64]; rcases hmay.k with ⟨_, _, _, _, h⟩ | ⟨_, _, _, h, h2⟩ <;> omega
  have HA := Lib.hid ha
  clear ha
  have HF := Lib.hid hf
  have HT := Lib.hid ht
  have HL := Lib.hid hL
  have OK := Lib.hid o
  clear hf ht h hL hmay o
  obtain ⟨k, f, t, d, L, n, a⟩ := m
  simp only at *
  subst hk
  have HK := Lib.hid hK
  clear hK
  go_enter Try.func45, Try.ntmps45
  go_wp2_with fail
  have T0 : Trk w _ [(w.heap.size, 54, mcA ⟨2, f, t, d, .slice A L.length c, n, a⟩)] := (Trk.nil w).push (t := 54) (cs := mcA ⟨2, f, t, d, .slice A L.length c, n, a⟩) rfl
  have hsz : w.heap.size + 1 ≤ (w.alloc (.cells (mcA ⟨2, f, t, d, .slice A L.length c, n, a⟩) 54)).heap.size := by simp
  refine (C1.out _ T0.below).mono ?_
  rintro r w1 ⟨rfl, hb1⟩
  have T1 := T0.call hb1
  have hs1 := Nat.le_trans hsz hb1.size
  clear T0 hb1 hsz
  go_upto_region 3 with fail
  have hl1 : ([2, f, t] : List Int).length = 3 := rfl
  have hl2 : (vecL d).length = 48 := rfl
  refine sw_region (w.heap.size + 1) [.is (.pointer (some ⟨w.heap.size, 0, none⟩)), .is (.int .u8 2), .is (.pointer (some ⟨w.heap.size, 1, none⟩)), .is (.int .i64 f), .is (.int .u8 f), .is (.pointer (some ⟨w.heap.size, 2, none⟩)), .is (.int .i64 t), .is (.int .u8 t), .bytes (w.heap.size + 1) [2, f, t], .is (.pointer (some ⟨w.heap.size, 3, none⟩)), .is (.agg (vecA d)), .bytes (w.heap.size + 1) (vecL d), .bytes (w.heap.size + 1) ([2, f, t] ++ vecL d), .bytes (w.heap.size + 1) ([2, f, t] ++ vecL d)] [(8, 12), (12, 13)] (fun _ _ => False) (by kernel_rfl) (by kernel_rfl) inv_none ?_
  refine sw_val rfl _ rfl (fun W hb => ?_) ?_
  · obtain ⟨x0, -, -⟩ := (T1.callB hb (Nat.le_succ _) ⟨Nat.lt_succ_self _, trivial⟩).rules
    obtain ⟨y0, -⟩ := (T1.callB hb (Nat.le_succ _) ⟨Nat.lt_succ_self _, trivial⟩).lts
    simp [execOp, go_sem, x0, y0, HF.out, HT.out]
  simp only [Act.put, List.setIfInBounds_toArray, List.set_cons_succ, List.set_cons_zero]
  refine sw_val rfl _ rfl (fun W hb => ?_) ?_
  · obtain ⟨x0, -, -⟩ := (T1.callB hb (Nat.le_succ _) ⟨Nat.lt_succ_self _, trivial⟩).rules
    obtain ⟨y0, -⟩ := (T1.callB hb (Nat.le_succ _) ⟨Nat.lt_succ_self _, trivial⟩).lts
    simp [execOp, go_sem, x0, y0, HF.out, HT.out]
  simp only [Act.put, List.setIfInBounds_toArray, List.set_cons_succ, List.set_cons_zero]
  refine sw_val rfl _ rfl (fun W hb => ?_) ?_
  · obtain ⟨x0, -, -⟩ := (T1.callB hb (Nat.le_succ _) ⟨Nat.lt_succ_self _, trivial⟩).rules
    obtain ⟨y0, -⟩ := (T1.callB hb (Nat.le_succ _) ⟨Nat.lt_succ_self _, trivial⟩).lts
    simp [execOp, go_sem, x0, y0, HF.out, HT.out]
  simp only [Act.put, List.setIfInBounds_toArray, List.set_cons_succ, List.set_cons_zero]
  refine sw_val rfl _ rfl (fun W hb => ?_) ?_
  · obtain ⟨x0, -, -⟩ := (T1.callB hb (Nat.le_succ _) ⟨Nat.lt_succ_self _, trivial⟩).rules
    obtain ⟨y0, -⟩ := (T1.callB hb (Nat.le_succ _) ⟨Nat.lt_succ_self _, trivial⟩).lts
    simp [execOp, go_sem, x0, y0, HF.out, HT.out]
  simp only [Act.put, List.setIfInBounds_toArray, List.set_cons_succ, List.set_cons_zero]
  refine sw_val rfl _ rfl (fun W hb => ?_) ?_
  · obtain ⟨x0, -, -⟩ := (T1.callB hb (Nat.le_succ _) ⟨Nat.lt_succ_self _, trivial⟩).rules
    obtain ⟨y0, -⟩ := (T1.callB hb (Nat.le_succ _) ⟨Nat.lt_succ_self _, trivial⟩).lts
    simp [execOp, go_sem, x0, y0, HF.out, HT.out]
  simp only [Act.put, List.setIfInBounds_toArray, List.set_cons_succ, List.set_cons_zero]
  refine sw_val rfl _ rfl (fun W hb => ?_) ?_
  · obtain ⟨x0, -, -⟩ := (T1.callB hb (Nat.le_succ _) ⟨Nat.lt_succ_self _, trivial⟩).rules
    obtain ⟨y0, -⟩ := (T1.callB hb (Nat.le_succ _) ⟨Nat.lt_succ_self _, trivial⟩).lts
    simp [execOp, go_sem, x0, y0, HF.out, HT.out]
  simp only [Act.put, List.setIfInBounds_toArray, List.set_cons_succ, List.set_cons_zero]
  refine sw_val rfl _ rfl (fun W hb => ?_) ?_
  · obtain ⟨x0, -, -⟩ := (T1.callB hb (Nat.le_succ _) ⟨Nat.lt_succ_self _, trivial⟩).rules
    obtain ⟨y0, -⟩ := (T1.callB hb (Nat.le_succ _) ⟨Nat.lt_succ_self _, trivial⟩).lts
    simp [execOp, go_sem, x0, y0, HF.out, HT.out]
  simp only [Act.put, List.setIfInBounds_toArray, List.set_cons_succ, List.set_cons_zero]
  refine sw_val rfl _ rfl (fun W hb => ?_) ?_
  · obtain ⟨x0, -, -⟩ := (T1.callB hb (Nat.le_succ _) ⟨Nat.lt_succ_self _, trivial⟩).rules
    obtain ⟨y0, -⟩ := (T1.callB hb (Nat.le_succ _) ⟨Nat.lt_succ_self _, trivial⟩).lts
    simp [execOp, go_sem, x0, y0, HF.out, HT.out]
  simp only [Act.put, List.setIfInBounds_toArray, List.set_cons_succ, List.set_cons_zero]
  refine sw_lit3 rfl _ _ _ rfl _ _ _ rfl rfl rfl rfl hs1 ?_
  intro z8
  simp only [Act.put, List.setIfInBounds_toArray, List.set_cons_succ, List.set_cons_zero]
  refine sw_val rfl _ rfl (fun W hb => ?_) ?_
  · obtain ⟨x0, -, -⟩ := (T1.callB hb (Nat.le_succ _) ⟨Nat.lt_succ_self _, trivial⟩).rules
    obtain ⟨y0, -⟩ := (T1.callB hb (Nat.le_succ _) ⟨Nat.lt_succ_self _, trivial⟩).lts
    simp [execOp, go_sem, x0, y0, HF.out, HT.out]
  simp only [Act.put, List.setIfInBounds_toArray, List.set_cons_succ, List.set_cons_zero]
  refine sw_val rfl _ rfl (fun W hb => ?_) ?_
  · obtain ⟨x0, -, -⟩ := (T1.callB hb (Nat.le_succ _) ⟨Nat.lt_succ_self _, trivial⟩).rules
    obtain ⟨y0, -⟩ := (T1.callB hb (Nat.le_succ _) ⟨Nat.lt_succ_self _, trivial⟩).lts
    simp [execOp, go_sem, x0, y0, HF.out, HT.out]
  simp only [Act.put, List.setIfInBounds_toArray, List.set_cons_succ, List.set_cons_zero]
  refine sw_call_bytes rfl 70 #[.agg (vecA d)] _ rfl hs1 ?_ (fun w => C3.out w) ?_
  · intro W; simp [go_sem] <;> rfl
  intro z11
  simp only [Act.put, List.setIfInBounds_toArray, List.set_cons_succ, List.set_cons_zero]
  refine sw_append_u8 rfl _ _ rfl 8 11 z8 z11 [2, f, t] (vecL d) rfl rfl rfl rfl (.inl rfl) (by repeat (first | exact Or.inl ⟨rfl, rfl⟩ | exact ⟨rfl, rfl⟩ | apply Or.inr)) (by repeat (first | exact Or.inl ⟨rfl, rfl⟩ | exact ⟨rfl, rfl⟩ | apply Or.inr)) (.inl (need_of rfl)) (.inl (need_of rfl)) rfl rfl (by first | omega | (simp only [List.length_append]; omega)) hs1 ?_
  intro z12
  simp only [Act.put, List.setIfInBounds_toArray, List.set_cons_succ, List.set_cons_zero]
  refine sw_pass rfl _ rfl 12 z12 ([2, f, t] ++ vecL d) rfl rfl rfl (by repeat (first | exact Or.inl ⟨rfl, rfl⟩ | exact ⟨rfl, rfl⟩ | apply Or.inr)) (.inl (need_of rfl)) rfl ?_
  intro z13
  simp only [Act.put, List.setIfInBounds_toArray, List.set_cons_succ, List.set_cons_zero]
  intro w2 ls hb2 hJ
  have own2 := inv_row (k := 13) (u := z13) (L := ([2, f, t] ++ vecL d)) hJ (by repeat (first | exact Or.inl ⟨rfl, rfl⟩ | exact ⟨rfl, rfl⟩ | apply Or.inr)) rfl rfl
  have T2 := T1.callB hb2 (Nat.le_succ _) ⟨Nat.lt_succ_self _, trivial⟩
  have hs2 := Nat.le_trans hs1 hb2.size
  clear T1 hJ hb2 hs1
  have HH := Lib.hid (show [2, f, t] ++ vecL d = headM ⟨2, f, t, d, L, n, a⟩ from rfl)
  generalize hh : [2, f, t] ++ vecL d = hd at own2 HH
  have hhl : hd.length ≤ 51 := by rw [HH.out]; exact Nat.le_refl _
  clear hh hl1 hl2 C1 C3
  have hl8 : (wordL n).length = 8 := rfl
  have on := OK.out.n
  have oa1 : 0 ≤ a ∧ a ≤ 18446744073709551615 := by
    rcases HK.out with ⟨h1, _⟩ | ⟨_, _, _, h, h2⟩
    · cases h1
    · omega
  obtain ⟨q0, -, -⟩ := T2.rules
  obtain ⟨l0, -⟩ := T2.lts
  go_upto_region 5 with fail
  clear q0 l0
  refine sw_region (w.heap.size + 1) [.is z13, .is (.pointer (some ⟨w.heap.size, 10, none⟩)), .is (.int .u64 n), .bytes (w.heap.size + 1) (hd ++ wordL n), .is (.pointer (some ⟨w.heap.size, 11, none⟩)), .is (.int .i64 a), .is (.int .u64 a), .bytes (w.heap.size + 1) ((hd ++ wordL n) ++ wordL a), .bytes (w.heap.size + 1) ((hd ++ wordL n) ++ wordL a), .bytes (w.heap.size + 1) hd] [(9, 3), (3, 7), (7, 8)] (oneF 9 z13) (by kernel_rfl) (by kernel_rfl) (inv_one (L := hd) rfl own2) ?_
  refine sw_move rfl _ rfl _ rfl rfl ?_
  simp only [Act.put, List.setIfInBounds_toArray, List.set_cons_succ, List.set_cons_zero]
  refine sw_val rfl _ rfl (fun W hb => ?_) ?_
  · obtain ⟨x0, -, -⟩ := (T2.callB hb (Nat.le_succ _) ⟨Nat.lt_succ_self _, trivial⟩).rules
    obtain ⟨y0, -⟩ := (T2.callB hb (Nat.le_succ _) ⟨Nat.lt_succ_self _, trivial⟩).lts
    simp [execOp, go_sem, x0, y0, HF.out, HT.out, HA.out]
  simp only [Act.put, List.setIfInBounds_toArray, List.set_cons_succ, List.set_cons_zero]
  refine sw_val rfl _ rfl (fun W hb => ?_) ?_
  · obtain ⟨x0, -, -⟩ := (T2.callB hb (Nat.le_succ _) ⟨Nat.lt_succ_self _, trivial⟩).rules
    obtain ⟨y0, -⟩ := (T2.callB hb (Nat.le_succ _) ⟨Nat.lt_succ_self _, trivial⟩).lts
    simp [execOp, go_sem, x0, y0, HF.out, HT.out, HA.out]
  simp only [Act.put, List.setIfInBounds_toArray, List.set_cons_succ, List.set_cons_zero]
  refine sw_call_grow rfl 78 #[z13, .int .u64 n] 9 z13 hd (hd ++ wordL n) rfl rfl rfl (by repeat (first | exact Or.inl ⟨rfl, rfl⟩ | exact ⟨rfl, rfl⟩ | apply Or.inr)) (.inr (by simp)) ?_ (fun W hb ho => rnumber20 n on.1 on.2 (w.heap.size + 1) z13 hd W (by omega) ho (Nat.le_trans hs2 hb.size)) ?_
  · intro W; simp [go_sem] <;> rfl
  intro z3
  simp only [Act.put, List.setIfInBounds_toArray, List.set_cons_succ, List.set_cons_zero]
  refine sw_val rfl _ rfl (fun W hb => ?_) ?_
  · obtain ⟨x0, -, -⟩ := (T2.callB hb (Nat.le_succ _) ⟨Nat.lt_succ_self _, trivial⟩).rules
    obtain ⟨y0, -⟩ := (T2.callB hb (Nat.le_succ _) ⟨Nat.lt_succ_self _, trivial⟩).lts
    simp [execOp, go_sem, x0, y0, HF.out, HT.out, HA.out]
  simp only [Act.put, List.setIfInBounds_toArray, List.set_cons_succ, List.set_cons_zero]
  refine sw_val rfl _ rfl (fun W hb => ?_) ?_
  · obtain ⟨x0, -, -⟩ := (T2.callB hb (Nat.le_succ _) ⟨Nat.lt_succ_self _, trivial⟩).rules
    obtain ⟨y0, -⟩ := (T2.callB hb (Nat.le_succ _) ⟨Nat.lt_succ_self _, trivial⟩).lts
    simp [execOp, go_sem, x0, y0, HF.out, HT.out, HA.out]
  simp only [Act.put, List.setIfInBounds_toArray, List.set_cons_succ, List.set_cons_zero]
  refine sw_val rfl _ rfl (fun W hb => ?_) ?_
  · obtain ⟨x0, -, -⟩ := (T2.callB hb (Nat.le_succ _) ⟨Nat.lt_succ_self _, trivial⟩).rules
    obtain ⟨y0, -⟩ := (T2.callB hb (Nat.le_succ _) ⟨Nat.lt_succ_self _, trivial⟩).lts
    simp [execOp, go_sem, x0, y0, HF.out, HT.out, HA.out]
  simp only [Act.put, List.setIfInBounds_toArray, List.set_cons_succ, List.set_cons_zero]
  refine sw_call_grow rfl 78 #[z3, .int .u64 a] 3 z3 (hd ++ wordL n) ((hd ++ wordL n) ++ wordL a) rfl rfl rfl (by repeat (first | exact Or.inl ⟨rfl, rfl⟩ | exact ⟨rfl, rfl⟩ | apply Or.inr)) (.inl (need_of rfl)) ?_ (fun W hb ho => rnumber20 a oa1.1 oa1.2 (w.heap.size + 1) z3 (hd ++ wordL n) W (by rw [List.length_append]; omega) ho (Nat.le_trans hs2 hb.size)) ?_
  · intro W; simp [go_sem] <;> rfl
  intro z7
  simp only [Act.put, List.setIfInBounds_toArray, List.set_cons_succ, List.set_cons_zero]
  refine sw_pass rfl _ rfl 7 z7 ((hd ++ wordL n) ++ wordL a) rfl rfl rfl (by repeat (first | exact Or.inl ⟨rfl, rfl⟩ | exact ⟨rfl, rfl⟩ | apply Or.inr)) (.inl (need_of rfl)) rfl ?_
  intro z8
  simp only [Act.put, List.setIfInBounds_toArray, List.set_cons_succ, List.set_cons_zero]
  intro w3 ls hb3 hJ
  have own3 := inv_row (k := 8) (u := z8) (L := ((hd ++ wordL n) ++ wordL a)) hJ (by repeat (first | exact Or.inl ⟨rfl, rfl⟩ | exact ⟨rfl, rfl⟩ | apply Or.inr)) rfl rfl
  have T3 := T2.callB hb3 (Nat.le_succ _) ⟨Nat.lt_succ_self _, trivial⟩
  have hs3 := Nat.le_trans hs2 hb3.size
  clear T2 hJ hb3 hs2
  have hfin : (hd ++ wordL n) ++ wordL a = headM ⟨2, f, t, d, L, n, a⟩ ++ tailM ⟨2, f, t, d, L, n, a⟩ := by
    rw [show tailM ⟨2, f, t, d, L, n, a⟩ = wordL n ++ wordL a from rfl, ← HH.out, List.append_assoc]
  rw [hfin] at own3
  clear hfin own2
  go_wp2_with fail
  go_ret
  exact ⟨_, rfl, own_mono own3 (Nat.le_succ _), T3.below⟩
theorem rput20 (m : Ms) (o : m.ok) (A : Option Addr) (c : Nat) (w : World) (hL : ERows w w.heap.size A m.l) (hc : m.l.length ≤ c) (hm : c ≤ maxLen) : Calls Try.prog 45 #[.agg (mcA ⟨m.k, m.f, m.t, m.d, .slice A m.l.length c, m.n, m.a⟩)] w (GivesB (putM m) w) := by
  cases h : mmayB m with
  | false => rw [putM_no h]; exact rput20_no m o h A c w hL hc hm
  | true =>
    rw [putM_yes h]
    rcases (mayM_of h).k with ⟨hk, _⟩ | ⟨hk, _⟩
    · exact rput20_yes1 m o h hk A c w hL hc hm
    · exact rput20_yes2 m o h hk A c w hL hc hm
end Go.Proofs.Ytolfnilickfneaa
