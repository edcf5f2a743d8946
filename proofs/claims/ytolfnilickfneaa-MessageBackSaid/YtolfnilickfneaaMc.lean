/-
  The walk of package message: Put.
-/
import Derived.Test.YtolfnilickfneaaGI
import Derived.Test.YtolfnilickfneaaGC
import Derived.Test.YtolfnilickfneaaGA
import Derived.Test.YtolfnilickfneaaGE
namespace Go.Proofs.Ytolfnilickfneaa
set_option linter.unusedVariables false
set_option linter.unusedSimpArgs false
open Go.RowKit
set_option maxRecDepth 100000

theorem mput_no (m : Ms) (o : m.ok) (h : mmayB m = false) (A : Option Addr) (c : Nat) (w : World) (hL : ERows w w.heap.size A m.l) (hc : m.l.length ≤ c) (hm : c ≤ maxLen) : Calls Try.prog 44 #[.agg (mcA ⟨m.k, m.f, m.t, m.d, .slice A m.l.length c, m.n, m.a⟩)] w (GivesB [] w) := by
  have C1 := Lib.hid fun (W : World) (hW : Below w.heap.size w W) => mmay' m o false h A c W (hL.next hW) hc hm
  clear h o hL
  go_enter Try.func44, Try.ntmps44
  go_wp2_with fail
  have T0 : Trk w _ [(w.heap.size, 54, mcA ⟨m.k, m.f, m.t, m.d, .slice A m.l.length c, m.n, m.a⟩)] := (Trk.nil w).push (t := 54) (cs := mcA ⟨m.k, m.f, m.t, m.d, .slice A m.l.length c, m.n, m.a⟩) rfl
  refine (C1.out _ T0.below).mono ?_
  rintro r w1 ⟨rfl, hb1⟩
  have T1 := T0.call hb1
  clear T0 hb1
  go_wp2_with fail
  go_ret
  exact ⟨_, rfl, World.ownsRow_nil _ _ _ _, T1.below⟩
set_option maxHeartbeats 4000000 in
theorem mput_yes1 (m : Ms) (o : m.ok) (h : mmayB m = true) (hk : m.k = 1) (A : Option Addr) (c : Nat) (w : World) (hL : ERows w w.heap.size A m.l) (hc : m.l.length ≤ c) (hm : c ≤ maxLen) : Calls Try.prog 44 #[.agg (mcA ⟨m.k, m.f, m.t, m.d, .slice A m.l.length c, m.n, m.a⟩)] w (GivesB (headM m ++ tailM m) w) := by
  have hm1 : c ≤ 9223372036854775807 := hm
  have C1 := Lib.hid fun (W : World) (hW : Below w.heap.size w W) => mmay' m o true h A c W (hL.next hW) hc hm
  have hmay := mayM_of h
  have hK := hmay.k
  have C3 := Lib.hid (fun W => vbytes m.d o.d W)
  have hf : IntKind.u8.wrap m.f = m.f := by have := hmay.f; rw [IntKind.wrap_u8]; omega
  have ht : IntKind.u8.wrap m.t = m.t := by have := hmay.t; rw [IntKind.wrap_u8]; omega
  have HF := Lib.hid hf
  have HT := Lib.hid ht
  have HL := Lib.hid hL
  have OK := Lib.hid o
  clear hf ht h hL hmay o
  obtain ⟨k, f, t, d, L, n, a⟩ := m
  simp only at *
  subst hk
  have HK := Lib.hid hK
  clear hK
  go_enter Try.func44, Try.ntmps44
  go_wp2_with fail
  have T0 : Trk w _ [(w.heap.size, 54, mcA ⟨1, f, t, d, .slice A L.length c, n, a⟩)] := (Trk.nil w).push (t := 54) (cs := mcA ⟨1, f, t, d, .slice A L.length c, n, a⟩) rfl
  have hsz : w.heap.size + 1 ≤ (w.alloc (.cells (mcA ⟨1, f, t, d, .slice A L.length c, n, a⟩) 54)).heap.size := by simp
  refine (C1.out _ T0.below).mono ?_
  rintro r w1 ⟨rfl, hb1⟩
  have T1 := T0.call hb1
  have hs1 := Nat.le_trans hsz hb1.size
  clear T0 hb1 hsz
  go_upto_region 3 with fail
  have hl1 : ([1, f, t] : List Int).length = 3 := rfl
  have hl2 : (vecL d).length = 48 := rfl
  refine sw_region (w.heap.size + 1) [.is (.pointer (some ⟨w.heap.size, 0, none⟩)), .is (.int .u8 1), .is (.pointer (some ⟨w.heap.size, 1, none⟩)), .is (.int .i64 f), .is (.int .u8 f), .is (.pointer (some ⟨w.heap.size, 2, none⟩)), .is (.int .i64 t), .is (.int .u8 t), .bytes (w.heap.size + 1) [1, f, t], .is (.pointer (some ⟨w.heap.size, 3, none⟩)), .is (.agg (vecA d)), .bytes (w.heap.size + 1) (vecL d), .bytes (w.heap.size + 1) ([1, f, t] ++ vecL d), .bytes (w.heap.size + 1) ([1, f, t] ++ vecL d)] [(8, 12), (12, 13)] (fun _ _ => False) (by kernel_rfl) (by kernel_rfl) inv_none ?_
  refine sw_val rfl _ rfl (fun W hb => ?_) ?_
  · obtain ⟨x0, -, -⟩ := (T1.callB hb (Nat.le_succ _) ⟨Nat.lt_succ_self _, trivial⟩).rules
    obtain ⟨y0, -⟩ := (T1.callB hb (Nat.le_succ _) ⟨Nat.lt_succ_self _, trivial⟩).lts
    simp [execOp, go_sem, x0, y0, HF.out, HT.out]
  simp only [Act.put, List.setIfInBounds_toArray, List.set_cons_succ, List.set_cons_zero]
  refine sw_val rfl _ rfl (fun W hb => ?_) ?_
  · obtain ⟨x0, -, -⟩ := (T1.callB hb (Nat.le_succ _) ⟨Nat.lt_succ_self _, trivial⟩).rules
    obtain ⟨y0, -⟩ := (T1.callB hb (Nat.le_succ _) ⟨Nat.lt_succ_self _, trivial⟩).lts
    simp [execOp, go_sem, x0, y0, HF.out, HT.out]
  simp only [Act.put, List.setIfInBounds_toArray, List.set_cons_succ, List.set_cons_zero]
  refine sw_val rfl _ rfl (fun W hb => ?_) ?_
  · obtain ⟨x0, -, -⟩ := (T1.callB hb (Nat.le_succ _) ⟨Nat.lt_succ_self _, trivial⟩).rules
    obtain ⟨y0, -⟩ := (T1.callB hb (Nat.le_succ _) ⟨Nat.lt_succ_self _, trivial⟩).lts
    simp [execOp, go_sem, x0, y0, HF.out, HT.out]
  simp only [Act.put, List.setIfInBounds_toArray, List.set_cons_succ, List.set_cons_zero]
  refine sw_val rfl _ rfl (fun W hb => ?_) ?_
  · obtain ⟨x0, -, -⟩ := (T1.callB hb (Nat.le_succ _) ⟨Nat.lt_succ_self _, trivial⟩).rules
    obtain ⟨y0, -⟩ := (T1.callB hb (Nat.le_succ _) ⟨Nat.lt_succ_self _, trivial⟩).lts
    simp [execOp, go_sem, x0, y0, HF.out, HT.out]
  simp only [Act.put, List.setIfInBounds_toArray, List.set_cons_succ, List.set_cons_zero]
  refine sw_val rfl _ rfl (fun W hb => ?_) ?_
  · obtain ⟨x0, -, -⟩ := (T1.callB hb (Nat.le_succ _) ⟨Nat.lt_succ_self _, trivial⟩).rules
    obtain ⟨y0, -⟩ := (T1.callB hb (Nat.le_succ _) ⟨Nat.lt_succ_self _, trivial⟩).lts
    simp [execOp, go_sem, x0, y0, HF.out, HT.out]
  simp only [Act.put, List.setIfInBounds_toArray, List.set_cons_succ, List.set_cons_zero]
  refine sw_val rfl _ rfl (fun W hb => ?_) ?_
  · obtain ⟨x0, -, -⟩ := (T1.callB hb (Nat.le_succ _) ⟨Nat.lt_succ_self _, trivial⟩).rules
    obtain ⟨y0, -⟩ := (T1.callB hb (Nat.le_succ _) ⟨Nat.lt_succ_self _, trivial⟩).lts
    simp [execOp, go_sem, x0, y0, HF.out, HT.out]
  simp only [Act.put, List.setIfInBounds_toArray, List.set_cons_succ, List.set_cons_zero]
  refine sw_val rfl _ rfl (fun W hb => ?_) ?_
  · obtain ⟨x0, -, -⟩ := (T1.callB hb (Nat.le_succ _) ⟨Nat.lt_succ_self _, trivial⟩).rules
    obtain ⟨y0, -⟩ := (T1.callB hb (Nat.le_succ _) ⟨Nat.lt_succ_self _, trivial⟩).lts
    simp [execOp, go_sem, x0, y0, HF.out, HT.out]
  simp only [Act.put, List.setIfInBounds_toArray, List.set_cons_succ, List.set_cons_zero]
  refine sw_val rfl _ rfl (fun W hb => ?_) ?_
  · obtain ⟨x0, -, -⟩ := (T1.callB hb (Nat.le_succ _) ⟨Nat.lt_succ_self _, trivial⟩).rules
    obtain ⟨y0, -⟩ := (T1.callB hb (Nat.le_succ _) ⟨Nat.lt_succ_self _, trivial⟩).lts
    simp [execOp, go_sem, x0, y0, HF.out, HT.out]
  simp only [Act.put, List.setIfInBounds_toArray, List.set_cons_succ, List.set_cons_zero]
  refine sw_lit3 rfl _ _ _ rfl _ _ _ rfl rfl rfl rfl hs1 ?_
  intro z8
  simp only [Act.put, List.setIfInBounds_toArray, List.set_cons_succ, List.set_cons_zero]
  refine sw_val rfl _ rfl (fun W hb => ?_) ?_
  · obtain ⟨x0, -, -⟩ := (T1.callB hb (Nat.le_succ _) ⟨Nat.lt_succ_self _, trivial⟩).rules
    obtain ⟨y0, -⟩ := (T1.callB hb (Nat.le_succ _) ⟨Nat.lt_succ_self _, trivial⟩).lts
    simp [execOp, go_sem, x0, y0, HF.out, HT.out]
  simp only [Act.put, List.setIfInBounds_toArray, List.set_cons_succ, List.set_cons_zero]
  refine sw_val rfl _ rfl (fun W hb => ?_) ?_
  · obtain ⟨x0, -, -⟩ := (T1.callB hb (Nat.le_succ _) ⟨Nat.lt_succ_self _, trivial⟩).rules
    obtain ⟨y0, -⟩ := (T1.callB hb (Nat.le_succ _) ⟨Nat.lt_succ_self _, trivial⟩).lts
    simp [execOp, go_sem, x0, y0, HF.out, HT.out]
  simp only [Act.put, List.setIfInBounds_toArray, List.set_cons_succ, List.set_cons_zero]
  refine sw_call_bytes rfl 68 #[.agg (vecA d)] _ rfl hs1 ?_ (fun w => C3.out w) ?_
  · intro W; simp [go_sem] <;> rfl
  intro z11
  simp only [Act.put, List.setIfInBounds_toArray, List.set_cons_succ, List.set_cons_zero]
  refine sw_append_u8 rfl _ _ rfl 8 11 z8 z11 [1, f, t] (vecL d) rfl rfl rfl rfl (.inl rfl) (by repeat (first | exact Or.inl ⟨rfl, rfl⟩ | exact ⟨rfl, rfl⟩ | apply Or.inr)) (by repeat (first | exact Or.inl ⟨rfl, rfl⟩ | exact ⟨rfl, rfl⟩ | apply Or.inr)) (.inl (need_of rfl)) (.inl (need_of rfl)) rfl rfl (by first | omega | (simp only [List.length_append]; omega)) hs1 ?_
  intro z12
  simp only [Act.put, List.setIfInBounds_toArray, List.set_cons_succ, List.set_cons_zero]
  refine sw_pass rfl _ rfl 12 z12 ([1, f, t] ++ vecL d) rfl rfl rfl (by repeat (first | exact Or.inl ⟨rfl, rfl⟩ | exact ⟨rfl, rfl⟩ | apply Or.inr)) (.inl (need_of rfl)) rfl ?_
  intro z13
  simp only [Act.put, List.setIfInBounds_toArray, List.set_cons_succ, List.set_cons_zero]
  intro w2 ls hb2 hJ
  have own2 := inv_row (k := 13) (u := z13) (L := ([1, f, t] ++ vecL d)) hJ (by repeat (first | exact Or.inl ⟨rfl, rfl⟩ | exact ⟨rfl, rfl⟩ | apply Or.inr)) rfl rfl
  have T2 := T1.callB hb2 (Nat.le_succ _) ⟨Nat.lt_succ_self _, trivial⟩
  have hs2 := Nat.le_trans hs1 hb2.size
  clear T1 hJ hb2 hs1
  have HH := Lib.hid (show [1, f, t] ++ vecL d = headM ⟨1, f, t, d, L, n, a⟩ from rfl)
  generalize hh : [1, f, t] ++ vecL d = hd at own2 HH
  have hhl : hd.length ≤ 51 := by rw [HH.out]; exact Nat.le_refl _
  clear hh hl1 hl2 C1 C3
  go_upto_region 4 with fail
  refine wp_region_post 6 [.rel WrsIs WrsIs.keep, .is (.pointer (some ⟨w.heap.size, 0, none⟩)), .is (.int .u8 1), .is (.func (.func 88) #[] #[]), .is z13, .is (.agg (mcA ⟨1, f, t, d, .slice A L.length c, n, a⟩))] (by kernel_rfl) (by simp) (by kernel_rfl) (by kernel_rfl) (by kernel_rfl) (by kernel_rfl) ?_
  simp only [List.take_succ_cons, List.take_zero, List.drop_succ_cons, List.drop_zero]
  refine lw_call_rel rfl 77 #[] _ _ rfl ?_ (fun w _ => mwriters w) ?_
  · intro W; simp [go_sem] <;> rfl
  intro zw
  simp only [Act.put, List.setIfInBounds_toArray, List.set_cons_succ, List.set_cons_zero]
  refine lw_val rfl _ rfl (fun W hb => ?_) ?_
  · obtain ⟨x0, -, -⟩ := (T2.call hb).rules
    obtain ⟨y0, -⟩ := (T2.call hb).lts
    simp [execOp, go_sem, x0, y0]
  simp only [Act.put, List.setIfInBounds_toArray, List.set_cons_succ, List.set_cons_zero]
  refine lw_val rfl _ rfl (fun W hb => ?_) ?_
  · obtain ⟨x0, -, -⟩ := (T2.call hb).rules
    obtain ⟨y0, -⟩ := (T2.call hb).lts
    simp [execOp, go_sem, x0, y0]
  simp only [Act.put, List.setIfInBounds_toArray, List.set_cons_succ, List.set_cons_zero]
  refine lw_read rfl 0 zw rfl (by repeat (first | exact Or.inl ⟨rfl, rfl⟩ | apply Or.inr)) _ _ rfl _ rfl (fun W hb hr => ?_) ?_
  · obtain ⟨g, rfl, _, hh⟩ := hr
    have := run_wr1 W g hh
    simp [execOp, go_sem, this]
  simp only [Act.put, List.setIfInBounds_toArray, List.set_cons_succ, List.set_cons_zero]
  refine lw_move rfl _ rfl _ rfl rfl ?_
  simp only [Act.put, List.setIfInBounds_toArray, List.set_cons_succ, List.set_cons_zero]
  refine lw_val rfl _ rfl (fun W hb => ?_) ?_
  · obtain ⟨x0, -, -⟩ := (T2.call hb).rules
    obtain ⟨y0, -⟩ := (T2.call hb).lts
    simp [execOp, go_sem, x0, y0]
  simp only [Act.put, List.setIfInBounds_toArray, List.set_cons_succ, List.set_cons_zero]
  intro w5 hb5 hFz
  have T5 := T2.call hb5
  have own5 := ownsRow_below own2 hb5
  have hs5 := Nat.le_trans hs2 hb5.size
  clear hFz T2 own2 hs2 hb5
  go_wp2_with fail
  have hLx : ERows w5 (w.heap.size + 1) A L := (HL.out.below T5.below).mono (Nat.le_succ _)
  have hl16 : L.length ≤ 16 := by
    rcases HK.out with ⟨_, _, h16, _⟩ | ⟨h1, _⟩
    · exact h16
    · cases h1
  refine (mwr1 ⟨1, f, t, d, L, n, a⟩ OK.out A c (w.heap.size + 1) z13 hd w5 hLx hc hm hl16 hhl own5 hs5).mono ?_
  rintro r w6 ⟨u6, rfl, own6, hb6⟩
  have T6 := T5.callB hb6 (Nat.le_succ _) ⟨Nat.lt_succ_self _, trivial⟩
  clear T5 own5 hLx
  go_wp2_with fail
  go_ret
  refine ⟨_, rfl, ?_, T6.below⟩
  rw [show tailM ⟨1, f, t, d, L, n, a⟩ = putsE L from rfl, ← HH.out]
  exact own_mono own6 (Nat.le_succ _)
set_option maxHeartbeats 4000000 in
theorem mput_yes2 (m : Ms) (o : m.ok) (h : mmayB m = true) (hk : m.k = 2) (A : Option Addr) (c : Nat) (w : World) (hL : ERows w w.heap.size A m.l) (hc : m.l.length ≤ c) (hm : c ≤ maxLen) : Calls Try.prog 44 #[.agg (mcA ⟨m.k, m.f, m.t, m.d, .slice A m.l.length c, m.n, m.a⟩)] w (GivesB (headM m ++ tailM m) w) := by
  have hm1 : c ≤ 9223372036854775807 := hm
  have C1 := Lib.hid fun (W : World) (hW : Below w.heap.size w W) => mmay' m o true h A c W (hL.next hW) hc hm
  have hmay := mayM_of h
  have hK := hmay.k
  have C3 := Lib.hid (fun W => vbytes m.d o.d W)
  have hf : IntKind.u8.wrap m.f = m.f := by have := hmay.f; rw [IntKind.wrap_u8]; omega
  have ht : IntKind.u8.wrap m.t = m.t := by have := hmay.t; rw [IntKind.wrap_u8]; omega
  have HF := Lib.hid hf
  have HT := Lib.hid ht
  have HL := Lib.hid hL
  have OK := Lib.hid o
  clear hf ht h hL hmay o
  obtain ⟨k, f, t, d, L, n, a⟩ := m
  simp only at *
  subst hk
  have HK := Lib.hid hK
  clear hK
  go_enter Try.func44, Try.ntmps44
  go_wp2_with fail
  have T0 : Trk w _ [(w.heap.size, 54, mcA ⟨2, f, t, d, .slice A L.length c, n, a⟩)] := (Trk.nil w).push (t := 54) (cs := mcA ⟨2, f, t, d, .slice A L.length c, n, a⟩) rfl
  have hsz : w.heap.size + 1 ≤ (w.alloc (.cells (mcA ⟨2, f, t, d, .slice A L.length c, n, a⟩) 54)).heap.size := by simp
  refine (C1.out _ T0.below).mono ?_
  rintro r w1 ⟨rfl, hb1⟩
  have T1 := T0.call hb1
  have hs1 := Nat.le_trans hsz hb1.size
  clear T0 hb1 hsz
  go_upto_region 3 with fail
  have hl1 : ([2, f, t] : List Int).length = 3 := rfl
  have hl2 : (vecL d).length = 48 := rfl
  refine sw_region (w.heap.size + 1) [.is (.pointer (some ⟨w.heap.size, 0, none⟩)), .is (.int .u8 2), .is (.pointer (some ⟨w.heap.size, 1, none⟩)), .is (.int .i64 f), .is (.int .u8 f), .is (.pointer (some ⟨w.heap.size, 2, none⟩)), .is (.int .i64 t), .is (.int .u8 t), .bytes (w.heap.size + 1) [2, f, t], .is (.pointer (some ⟨w.heap.size, 3, none⟩)), .is (.agg (vecA d)), .bytes (w.heap.size + 1) (vecL d), .bytes (w.heap.size + 1) ([2, f, t] ++ vecL d), .bytes (w.heap.size + 1) ([2, f, t] ++ vecL d)] [(8, 12), (12, 13)] (fun _ _ => False) (by kernel_rfl) (by kernel_rfl) inv_none ?_
  refine sw_val rfl _ rfl (fun W hb => ?_) ?_
  · obtain ⟨x0, -, -⟩ := (T1.callB hb (Nat.le_succ _) ⟨Nat.lt_succ_self _, trivial⟩).rules
    obtain ⟨y0, -⟩ := (T1.callB hb (Nat.le_succ _) ⟨Nat.lt_succ_self _, trivial⟩).lts
    simp [execOp, go_sem, x0, y0, HF.out, HT.out]
  simp only [Act.put, List.setIfInBounds_toArray, List.set_cons_succ, List.set_cons_zero]
  refine sw_val rfl _ rfl (fun W hb => ?_) ?_
  · obtain ⟨x0, -, -⟩ := (T1.callB hb (Nat.le_succ _) ⟨Nat.lt_succ_self _, trivial⟩).rules
    obtain ⟨y0, -⟩ := (T1.callB hb (Nat.le_succ _) ⟨Nat.lt_succ_self _, trivial⟩).lts
    simp [execOp, go_sem, x0, y0, HF.out, HT.out]
  simp only [Act.put, List.setIfInBounds_toArray, List.set_cons_succ, List.set_cons_zero]
  refine sw_val rfl _ rfl (fun W hb => ?_) ?_
  · obtain ⟨x0, -, -⟩ := (T1.callB hb (Nat.le_succ _) ⟨Nat.lt_succ_self _, trivial⟩).rules
    obtain ⟨y0, -⟩ := (T1.callB hb (Nat.le_succ _) ⟨Nat.lt_succ_self _, trivial⟩).lts
    simp [execOp, go_sem, x0, y0, HF.out, HT.out]
  simp only [Act.put, List.setIfInBounds_toArray, List.set_cons_succ, List.set_cons_zero]
  refine sw_val rfl _ rfl (fun W hb => ?_) ?_
  · obtain ⟨x0, -, -⟩ := (T1.callB hb (Nat.le_succ _) ⟨Nat.lt_succ_self _, trivial⟩).rules
    obtain ⟨y0, -⟩ := (T1.callB hb (Nat.le_succ _) ⟨Nat.lt_succ_self _, trivial⟩).lts
    simp [execOp, go_sem, x0, y0, HF.out, HT.out]
  simp only [Act.put, List.setIfInBounds_toArray, List.set_cons_succ, List.set_cons_zero]
  refine sw_val rfl _ rfl (fun W hb => ?_) ?_
  · obtain ⟨x0, -, -⟩ := (T1.callB hb (Nat.le_succ _) ⟨Nat.lt_succ_self _, trivial⟩).rules
    obtain ⟨y0, -⟩ := (T1.callB hb (Nat.le_succ _) ⟨Nat.lt_succ_self _, trivial⟩).lts
    simp [execOp, go_sem, x0, y0, HF.out, HT.out]
  simp only [Act.put, List.setIfInBounds_toArray, List.set_cons_succ, List.set_cons_zero]
  refine sw_val rfl _ rfl (fun W hb => ?_) ?_
  · obtain ⟨x0, -, -⟩ := (T1.callB hb (Nat.le_succ _) ⟨Nat.lt_succ_self _, trivial⟩).rules
    obtain ⟨y0, -⟩ := (T1.callB hb (Nat.le_succ _) ⟨Nat.lt_succ_self _, trivial⟩).lts
    simp [execOp, go_sem, x0, y0, HF.out, HT.out]
  simp only [Act.put, List.setIfInBounds_toArray, List.set_cons_succ, List.set_cons_zero]
  refine sw_val rfl _ rfl (fun W hb => ?_) ?_
  · obtain ⟨x0, -, -⟩ := (T1.callB hb (Nat.le_succ _) ⟨Nat.lt_succ_self _, trivial⟩).rules
    obtain ⟨y0, -⟩ := (T1.callB hb (Nat.le_succ _) ⟨Nat.lt_succ_self _, trivial⟩).lts
    simp [execOp, go_sem, x0, y0, HF.out, HT.out]
  simp only [Act.put, List.setIfInBounds_toArray, List.set_cons_succ, List.set_cons_zero]
  refine sw_val rfl _ rfl (fun W hb => ?_) ?_
  · obtain ⟨x0, -, -⟩ := (T1.callB hb (Nat.le_succ _) ⟨Nat.lt_succ_self _, trivial⟩).rules
    obtain ⟨y0, -⟩ := (T1.callB hb (Nat.le_succ _) ⟨Nat.lt_succ_self _, trivial⟩).lts
    simp [execOp, go_sem, x0, y0, HF.out, HT.out]
  simp only [Act.put, List.setIfInBounds_toArray, List.set_cons_succ, List.set_cons_zero]
  refine sw_lit3 rfl _ _ _ rfl _ _ _ rfl rfl rfl rfl hs1 ?_
  intro z8
  simp only [Act.put, List.setIfInBounds_toArray, List.set_cons_succ, List.set_cons_zero]
  refine sw_val rfl _ rfl (fun W hb => ?_) ?_
  · obtain ⟨x0, -, -⟩ := (T1.callB hb (Nat.le_succ _) ⟨Nat.lt_succ_self _, trivial⟩).rules
    obtain ⟨y0, -⟩ := (T1.callB hb (Nat.le_succ _) ⟨Nat.lt_succ_self _, trivial⟩).lts
    simp [execOp, go_sem, x0, y0, HF.out, HT.out]
  simp only [Act.put, List.setIfInBounds_toArray, List.set_cons_succ, List.set_cons_zero]
  refine sw_val rfl _ rfl (fun W hb => ?_) ?_
  · obtain ⟨x0, -, -⟩ := (T1.callB hb (Nat.le_succ _) ⟨Nat.lt_succ_self _, trivial⟩).rules
    obtain ⟨y0, -⟩ := (T1.callB hb (Nat.le_succ _) ⟨Nat.lt_succ_self _, trivial⟩).lts
    simp [execOp, go_sem, x0, y0, HF.out, HT.out]
  simp only [Act.put, List.setIfInBounds_toArray, List.set_cons_succ, List.set_cons_zero]
  refine sw_call_bytes rfl 68 #[.agg (vecA d)] _ rfl hs1 ?_ (fun w => C3.out w) ?_
  · intro W; simp [go_sem] <;> rfl
  intro z11
  simp only [Act.put, List.setIfInBounds_toArray, List.set_cons_succ, List.set_cons_zero]
  refine sw_append_u8 rfl _ _ rfl 8 11 z8 z11 [2, f, t] (vecL d) rfl rfl rfl rfl (.inl rfl) (by repeat (first | exact Or.inl ⟨rfl, rfl⟩ | exact ⟨rfl, rfl⟩ | apply Or.inr)) (by repeat (first | exact Or.inl ⟨rfl, rfl⟩ | exact ⟨rfl, rfl⟩ | apply Or.inr)) (.inl (need_of rfl)) (.inl (need_of rfl)) rfl rfl (by first | omega | (simp only [List.length_append]; omega)) hs1 ?_
  intro z12
  simp only [Act.put, List.setIfInBounds_toArray, List.set_cons_succ, List.set_cons_zero]
  refine sw_pass rfl _ rfl 12 z12 ([2, f, t] ++ vecL d) rfl rfl rfl (by repeat (first | exact Or.inl ⟨rfl, rfl⟩ | exact ⟨rfl, rfl⟩ | apply Or.inr)) (.inl (need_of rfl)) rfl ?_
  intro z13
  simp only [Act.put, List.setIfInBounds_toArray, List.set_cons_succ, List.set_cons_zero]
  intro w2 ls hb2 hJ
  have own2 := inv_row (k := 13) (u := z13) (L := ([2, f, t] ++ vecL d)) hJ (by repeat (first | exact Or.inl ⟨rfl, rfl⟩ | exact ⟨rfl, rfl⟩ | apply Or.inr)) rfl rfl
  have T2 := T1.callB hb2 (Nat.le_succ _) ⟨Nat.lt_succ_self _, trivial⟩
  have hs2 := Nat.le_trans hs1 hb2.size
  clear T1 hJ hb2 hs1
  have HH := Lib.hid (show [2, f, t] ++ vecL d = headM ⟨2, f, t, d, L, n, a⟩ from rfl)
  generalize hh : [2, f, t] ++ vecL d = hd at own2 HH
  have hhl : hd.length ≤ 51 := by rw [HH.out]; exact Nat.le_refl _
  clear hh hl1 hl2 C1 C3
  go_upto_region 4 with fail
  refine wp_region_post 6 [.rel WrsIs WrsIs.keep, .is (.pointer (some ⟨w.heap.size, 0, none⟩)), .is (.int .u8 2), .is (.func (.func 89) #[] #[]), .is z13, .is (.agg (mcA ⟨2, f, t, d, .slice A L.length c, n, a⟩))] (by kernel_rfl) (by simp) (by kernel_rfl) (by kernel_rfl) (by kernel_rfl) (by kernel_rfl) ?_
  simp only [List.take_succ_cons, List.take_zero, List.drop_succ_cons, List.drop_zero]
  refine lw_call_rel rfl 77 #[] _ _ rfl ?_ (fun w _ => mwriters w) ?_
  · intro W; simp [go_sem] <;> rfl
  intro zw
  simp only [Act.put, List.setIfInBounds_toArray, List.set_cons_succ, List.set_cons_zero]
  refine lw_val rfl _ rfl (fun W hb => ?_) ?_
  · obtain ⟨x0, -, -⟩ := (T2.call hb).rules
    obtain ⟨y0, -⟩ := (T2.call hb).lts
    simp [execOp, go_sem, x0, y0]
  simp only [Act.put, List.setIfInBounds_toArray, List.set_cons_succ, List.set_cons_zero]
  refine lw_val rfl _ rfl (fun W hb => ?_) ?_
  · obtain ⟨x0, -, -⟩ := (T2.call hb).rules
    obtain ⟨y0, -⟩ := (T2.call hb).lts
    simp [execOp, go_sem, x0, y0]
  simp only [Act.put, List.setIfInBounds_toArray, List.set_cons_succ, List.set_cons_zero]
  refine lw_read rfl 0 zw rfl (by repeat (first | exact Or.inl ⟨rfl, rfl⟩ | apply Or.inr)) _ _ rfl _ rfl (fun W hb hr => ?_) ?_
  · obtain ⟨g, rfl, _, hh⟩ := hr
    have := run_wr2 W g hh
    simp [execOp, go_sem, this]
  simp only [Act.put, List.setIfInBounds_toArray, List.set_cons_succ, List.set_cons_zero]
  refine lw_move rfl _ rfl _ rfl rfl ?_
  simp only [Act.put, List.setIfInBounds_toArray, List.set_cons_succ, List.set_cons_zero]
  refine lw_val rfl _ rfl (fun W hb => ?_) ?_
  · obtain ⟨x0, -, -⟩ := (T2.call hb).rules
    obtain ⟨y0, -⟩ := (T2.call hb).lts
    simp [execOp, go_sem, x0, y0]
  simp only [Act.put, List.setIfInBounds_toArray, List.set_cons_succ, List.set_cons_zero]
  intro w5 hb5 hFz
  have T5 := T2.call hb5
  have own5 := ownsRow_below own2 hb5
  have hs5 := Nat.le_trans hs2 hb5.size
  clear hFz T2 own2 hs2 hb5
  go_wp2_with fail
  have ha1 : 1 ≤ a := by
    rcases HK.out with ⟨h1, _⟩ | ⟨_, _, _, ha, _⟩
    · cases h1
    · exact ha
  refine (mwr2 ⟨2, f, t, d, L, n, a⟩ OK.out A c (w.heap.size + 1) z13 hd w5 ha1 hhl own5 hs5).mono ?_
  rintro r w6 ⟨u6, rfl, own6, hb6⟩
  have T6 := T5.callB hb6 (Nat.le_succ _) ⟨Nat.lt_succ_self _, trivial⟩
  clear T5 own5
  go_wp2_with fail
  go_ret
  refine ⟨_, rfl, ?_, T6.below⟩
  rw [show tailM ⟨2, f, t, d, L, n, a⟩ = wordL n ++ wordL a from rfl, ← HH.out]
  exact own_mono own6 (Nat.le_succ _)
theorem mput (m : Ms) (o : m.ok) (A : Option Addr) (c : Nat) (w : World) (hL : ERows w w.heap.size A m.l) (hc : m.l.length ≤ c) (hm : c ≤ maxLen) : Calls Try.prog 44 #[.agg (mcA ⟨m.k, m.f, m.t, m.d, .slice A m.l.length c, m.n, m.a⟩)] w (GivesB (putM m) w) := by
  cases h : mmayB m with
  | false => rw [putM_no h]; exact mput_no m o h A c w hL hc hm
  | true =>
    rw [putM_yes h]
    rcases (mayM_of h).k with ⟨hk, _⟩ | ⟨hk, _⟩
    · exact mput_yes1 m o h hk A c w hL hc hm
    · exact mput_yes2 m o h hk A c w hL hc hm
end Go.Proofs.Ytolfnilickfneaa
