/-
  The walk of the document's leatref08.Put.
  The walks of the document's leatref08: number, Id.
-/
import Derived.Test.YtolfnilickfneaaGE
import Derived.Test.YtolfnilickfneaaOct
import Derived.Test.YtolfnilickfneaaGG
namespace Go.Proofs.Ytolfnilickfneaa
set_option linter.unusedVariables false
set_option linter.unusedSimpArgs false
open Go.RowKit

theorem rput_no (e : Ev) (hv : e.ok) (h : emayB e = false) (w : World) : Calls Try.prog 36 #[.agg (evA e)] w (GivesB [] w) := by
  have C1 := Lib.hid (rmay8' e hv false h)
  clear h hv
  go_enter Try.func36, Try.ntmps36
  go_wp2_with fail
  have T0 : Trk w _ [(w.heap.size, 41, evA e)] := (Trk.nil w).push (t := 41) (cs := evA e) rfl
  refine (C1.out _).mono ?_
  rintro r w1 ⟨rfl, hb1⟩
  have T1 := T0.call hb1
  clear T0 hb1
  go_wp2_with fail
  go_ret
  exact ⟨_, rfl, World.ownsRow_nil _ _ _ _, T1.below⟩
set_option maxHeartbeats 4000000 in
set_option maxRecDepth 100000 in
theorem rput_yes (e : Ev) (hv : e.ok) (h : emayB e = true) (w : World) : Calls Try.prog 36 #[.agg (evA e)] w (GivesB (evL e) w) := by
  have C1 := Lib.hid (rmay8' e hv true h)
  have C2 := Lib.hid (rword e.s hv.s.1 hv.s.2)
  have C3 := Lib.hid (rbytes e.d hv.d)
  have C4 := Lib.hid (rword e.n hv.n.1 hv.n.2)
  have a1 := (may_of h).a1
  have a2 := (may_of h).a2
  have C5 := Lib.hid (rword e.a a1 (by omega))
  have C6 := Lib.hid (rword e.r hv.r.1 hv.r.2)
  have C7 := Lib.hid (rword e.f hv.f.1 hv.f.2)
  have ho : IntKind.u8.wrap e.o = e.o := by have := (may_of h).o1; have := (may_of h).o2; rw [IntKind.wrap_u8]; omega
  have ht : IntKind.u8.wrap e.t = e.t := by have := (may_of h).t1; have := (may_of h).t2; rw [IntKind.wrap_u8]; omega
  have ha : IntKind.u64.wrap e.a = e.a := by rw [IntKind.wrap_u64]; omega
  have HO := Lib.hid ho
  have HT := Lib.hid ht
  have HA := Lib.hid ha
  have HF := Lib.hid (show evL e = ((((((([e.o] ++ wordL e.s) ++ vecL e.d) ++ [e.k]) ++ wordL e.n) ++ [e.t]) ++ wordL e.a) ++ wordL e.r) ++ wordL e.f from rfl)
  clear ho ht ha a1 a2 h hv
  go_enter Try.func36, Try.ntmps36
  go_wp2_with fail
  have T0 : Trk w _ [(w.heap.size, 41, evA e)] := (Trk.nil w).push (t := 41) (cs := evA e) rfl
  have hsz : w.heap.size + 1 ≤ (w.alloc (.cells (evA e) 41)).heap.size := by simp
  refine (C1.out _).mono ?_
  rintro r w1 ⟨rfl, hb1⟩
  have T1 := T0.call hb1
  have hs1 := Nat.le_trans hsz hb1.size
  clear T0 hb1 hsz
  go_upto_region 3 with fail
  have hl1 : ([e.o] : List Int).length = 1 := rfl
  have hl2 : (wordL e.s).length = 8 := rfl
  refine sw_region (w.heap.size + 1) [.is (.pointer (some ⟨w.heap.size, 0, none⟩)), .is (.int .i64 e.o), .is (.int .u8 e.o), .bytes (w.heap.size + 1) [e.o], .is (.pointer (some ⟨w.heap.size, 1, none⟩)), .is (.int .u64 e.s), .bytes (w.heap.size + 1) (wordL e.s), .bytes (w.heap.size + 1) ([e.o] ++ wordL e.s), .bytes (w.heap.size + 1) ([e.o] ++ wordL e.s)] [(3, 7), (7, 8)] (fun _ _ => False) (by kernel_rfl) (by kernel_rfl) inv_none ?_
  refine sw_val rfl _ rfl (fun W hb => ?_) ?_
  · obtain ⟨x0, -, -⟩ := (T1.callB hb (Nat.le_succ _) ⟨Nat.lt_succ_self _, trivial⟩).rules
    obtain ⟨y0, -⟩ := (T1.callB hb (Nat.le_succ _) ⟨Nat.lt_succ_self _, trivial⟩).lts
    simp [execOp, go_sem, x0, y0, HO.out, HT.out, HA.out]
  simp only [Act.put, List.setIfInBounds_toArray, List.set_cons_succ, List.set_cons_zero]
  refine sw_val rfl _ rfl (fun W hb => ?_) ?_
  · obtain ⟨x0, -, -⟩ := (T1.callB hb (Nat.le_succ _) ⟨Nat.lt_succ_self _, trivial⟩).rules
    obtain ⟨y0, -⟩ := (T1.callB hb (Nat.le_succ _) ⟨Nat.lt_succ_self _, trivial⟩).lts
    simp [execOp, go_sem, x0, y0, HO.out, HT.out, HA.out]
  simp only [Act.put, List.setIfInBounds_toArray, List.set_cons_succ, List.set_cons_zero]
  refine sw_val rfl _ rfl (fun W hb => ?_) ?_
  · obtain ⟨x0, -, -⟩ := (T1.callB hb (Nat.le_succ _) ⟨Nat.lt_succ_self _, trivial⟩).rules
    obtain ⟨y0, -⟩ := (T1.callB hb (Nat.le_succ _) ⟨Nat.lt_succ_self _, trivial⟩).lts
    simp [execOp, go_sem, x0, y0, HO.out, HT.out, HA.out]
  simp only [Act.put, List.setIfInBounds_toArray, List.set_cons_succ, List.set_cons_zero]
  refine sw_lit rfl _ rfl _ rfl rfl hs1 ?_
  intro z3
  simp only [Act.put, List.setIfInBounds_toArray, List.set_cons_succ, List.set_cons_zero]
  refine sw_val rfl _ rfl (fun W hb => ?_) ?_
  · obtain ⟨x0, -, -⟩ := (T1.callB hb (Nat.le_succ _) ⟨Nat.lt_succ_self _, trivial⟩).rules
    obtain ⟨y0, -⟩ := (T1.callB hb (Nat.le_succ _) ⟨Nat.lt_succ_self _, trivial⟩).lts
    simp [execOp, go_sem, x0, y0, HO.out, HT.out, HA.out]
  simp only [Act.put, List.setIfInBounds_toArray, List.set_cons_succ, List.set_cons_zero]
  refine sw_val rfl _ rfl (fun W hb => ?_) ?_
  · obtain ⟨x0, -, -⟩ := (T1.callB hb (Nat.le_succ _) ⟨Nat.lt_succ_self _, trivial⟩).rules
    obtain ⟨y0, -⟩ := (T1.callB hb (Nat.le_succ _) ⟨Nat.lt_succ_self _, trivial⟩).lts
    simp [execOp, go_sem, x0, y0, HO.out, HT.out, HA.out]
  simp only [Act.put, List.setIfInBounds_toArray, List.set_cons_succ, List.set_cons_zero]
  refine sw_call_bytes rfl 69 #[.int .u64 e.s] _ rfl hs1 ?_ (fun w => C2.out w) ?_
  · intro W; simp [go_sem] <;> rfl
  intro z6
  simp only [Act.put, List.setIfInBounds_toArray, List.set_cons_succ, List.set_cons_zero]
  refine sw_append_u8 rfl _ _ rfl 3 6 z3 z6 [e.o] (wordL e.s) rfl rfl rfl rfl (.inl rfl) (by repeat (first | exact Or.inl ⟨rfl, rfl⟩ | exact ⟨rfl, rfl⟩ | apply Or.inr)) (by repeat (first | exact Or.inl ⟨rfl, rfl⟩ | exact ⟨rfl, rfl⟩ | apply Or.inr)) (.inl (need_of rfl)) (.inl (need_of rfl)) rfl rfl (by first | omega | (simp only [List.length_append]; omega)) hs1 ?_
  intro z7
  simp only [Act.put, List.setIfInBounds_toArray, List.set_cons_succ, List.set_cons_zero]
  refine sw_pass rfl _ rfl 7 z7 ([e.o] ++ wordL e.s) rfl rfl rfl (by repeat (first | exact Or.inl ⟨rfl, rfl⟩ | exact ⟨rfl, rfl⟩ | apply Or.inr)) (.inl (need_of rfl)) rfl ?_
  intro z8
  simp only [Act.put, List.setIfInBounds_toArray, List.set_cons_succ, List.set_cons_zero]
  intro w2 ls hb2 hJ
  have own2 := inv_row (k := 8) (u := z8) (L := ([e.o] ++ wordL e.s)) hJ (by repeat (first | exact Or.inl ⟨rfl, rfl⟩ | exact ⟨rfl, rfl⟩ | apply Or.inr)) rfl rfl
  have T2 := T1.callB hb2 (Nat.le_succ _) ⟨Nat.lt_succ_self _, trivial⟩
  have hs2 := Nat.le_trans hs1 hb2.size
  clear T1 hJ hb2 hs1
  generalize hm1 : [e.o] ++ wordL e.s = m1 at own2
  have hM1 : m1.length = 9 := by rw [← hm1]; rfl
  have HM1 := Lib.hid hm1
  clear hm1
  go_upto_region 4 with fail
  have hl1 : (vecL e.d).length = 48 := rfl
  have hl2 : ([e.k] : List Int).length = 1 := rfl
  refine sw_region (w.heap.size + 1) [.is z8, .is (.pointer (some ⟨w.heap.size, 2, none⟩)), .is (.agg (vecA e.d)), .bytes (w.heap.size + 1) (vecL e.d), .bytes (w.heap.size + 1) (m1 ++ vecL e.d), .is (.pointer (some ⟨w.heap.size, 8, none⟩)), .is (.int .u8 e.k), .bytes (w.heap.size + 1) [e.k], .bytes (w.heap.size + 1) ((m1 ++ vecL e.d) ++ [e.k]), .bytes (w.heap.size + 1) ((m1 ++ vecL e.d) ++ [e.k]), .bytes (w.heap.size + 1) m1] [(10, 4), (4, 8), (8, 9)] (oneF 10 z8) (by kernel_rfl) (by kernel_rfl) (inv_one (L := m1) rfl own2) ?_
  refine sw_move rfl _ rfl _ rfl rfl ?_
  simp only [Act.put, List.setIfInBounds_toArray, List.set_cons_succ, List.set_cons_zero]
  refine sw_val rfl _ rfl (fun W hb => ?_) ?_
  · obtain ⟨x0, -, -⟩ := (T2.callB hb (Nat.le_succ _) ⟨Nat.lt_succ_self _, trivial⟩).rules
    obtain ⟨y0, -⟩ := (T2.callB hb (Nat.le_succ _) ⟨Nat.lt_succ_self _, trivial⟩).lts
    simp [execOp, go_sem, x0, y0, HO.out, HT.out, HA.out]
  simp only [Act.put, List.setIfInBounds_toArray, List.set_cons_succ, List.set_cons_zero]
  refine sw_val rfl _ rfl (fun W hb => ?_) ?_
  · obtain ⟨x0, -, -⟩ := (T2.callB hb (Nat.le_succ _) ⟨Nat.lt_succ_self _, trivial⟩).rules
    obtain ⟨y0, -⟩ := (T2.callB hb (Nat.le_succ _) ⟨Nat.lt_succ_self _, trivial⟩).lts
    simp [execOp, go_sem, x0, y0, HO.out, HT.out, HA.out]
  simp only [Act.put, List.setIfInBounds_toArray, List.set_cons_succ, List.set_cons_zero]
  refine sw_call_bytes rfl 70 #[.agg (vecA e.d)] _ rfl hs2 ?_ (fun w => C3.out w) ?_
  · intro W; simp [go_sem] <;> rfl
  intro z3
  simp only [Act.put, List.setIfInBounds_toArray, List.set_cons_succ, List.set_cons_zero]
  refine sw_append_u8 rfl _ _ rfl 10 3 z8 z3 m1 (vecL e.d) rfl rfl rfl rfl (.inl rfl) (by repeat (first | exact Or.inl ⟨rfl, rfl⟩ | exact ⟨rfl, rfl⟩ | apply Or.inr)) (by repeat (first | exact Or.inl ⟨rfl, rfl⟩ | exact ⟨rfl, rfl⟩ | apply Or.inr)) (.inr (by simp)) (.inl (need_of rfl)) rfl rfl (by first | omega | (simp only [List.length_append]; omega)) hs2 ?_
  intro z4
  simp only [Act.put, List.setIfInBounds_toArray, List.set_cons_succ, List.set_cons_zero]
  refine sw_val rfl _ rfl (fun W hb => ?_) ?_
  · obtain ⟨x0, -, -⟩ := (T2.callB hb (Nat.le_succ _) ⟨Nat.lt_succ_self _, trivial⟩).rules
    obtain ⟨y0, -⟩ := (T2.callB hb (Nat.le_succ _) ⟨Nat.lt_succ_self _, trivial⟩).lts
    simp [execOp, go_sem, x0, y0, HO.out, HT.out, HA.out]
  simp only [Act.put, List.setIfInBounds_toArray, List.set_cons_succ, List.set_cons_zero]
  refine sw_val rfl _ rfl (fun W hb => ?_) ?_
  · obtain ⟨x0, -, -⟩ := (T2.callB hb (Nat.le_succ _) ⟨Nat.lt_succ_self _, trivial⟩).rules
    obtain ⟨y0, -⟩ := (T2.callB hb (Nat.le_succ _) ⟨Nat.lt_succ_self _, trivial⟩).lts
    simp [execOp, go_sem, x0, y0, HO.out, HT.out, HA.out]
  simp only [Act.put, List.setIfInBounds_toArray, List.set_cons_succ, List.set_cons_zero]
  refine sw_lit rfl _ rfl _ rfl rfl hs2 ?_
  intro z7
  simp only [Act.put, List.setIfInBounds_toArray, List.set_cons_succ, List.set_cons_zero]
  refine sw_append_u8 rfl _ _ rfl 4 7 z4 z7 (m1 ++ vecL e.d) [e.k] rfl rfl rfl rfl (.inl rfl) (by repeat (first | exact Or.inl ⟨rfl, rfl⟩ | exact ⟨rfl, rfl⟩ | apply Or.inr)) (by repeat (first | exact Or.inl ⟨rfl, rfl⟩ | exact ⟨rfl, rfl⟩ | apply Or.inr)) (.inl (need_of rfl)) (.inl (need_of rfl)) rfl rfl (by first | omega | (simp only [List.length_append]; omega)) hs2 ?_
  intro z8
  simp only [Act.put, List.setIfInBounds_toArray, List.set_cons_succ, List.set_cons_zero]
  refine sw_pass rfl _ rfl 8 z8 ((m1 ++ vecL e.d) ++ [e.k]) rfl rfl rfl (by repeat (first | exact Or.inl ⟨rfl, rfl⟩ | exact ⟨rfl, rfl⟩ | apply Or.inr)) (.inl (need_of rfl)) rfl ?_
  intro z9
  simp only [Act.put, List.setIfInBounds_toArray, List.set_cons_succ, List.set_cons_zero]
  intro w3 ls hb3 hJ
  have own3 := inv_row (k := 9) (u := z9) (L := ((m1 ++ vecL e.d) ++ [e.k])) hJ (by repeat (first | exact Or.inl ⟨rfl, rfl⟩ | exact ⟨rfl, rfl⟩ | apply Or.inr)) rfl rfl
  have T3 := T2.callB hb3 (Nat.le_succ _) ⟨Nat.lt_succ_self _, trivial⟩
  have hs3 := Nat.le_trans hs2 hb3.size
  clear T2 hJ hb3 hs2
  generalize hm2 : (m1 ++ vecL e.d) ++ [e.k] = m2 at own3
  have hM2 : m2.length = 58 := by rw [← hm2, List.length_append, List.length_append]; omega
  have HM2 := Lib.hid hm2
  clear hm2 own2 hl1 hl2
  go_upto_region 5 with fail
  have hl1 : (wordL e.n).length = 8 := rfl
  have hl2 : ([e.t] : List Int).length = 1 := rfl
  refine sw_region (w.heap.size + 1) [.is z9, .is (.pointer (some ⟨w.heap.size, 9, none⟩)), .is (.int .u64 e.n), .bytes (w.heap.size + 1) (wordL e.n), .bytes (w.heap.size + 1) (m2 ++ wordL e.n), .is (.pointer (some ⟨w.heap.size, 10, none⟩)), .is (.int .i64 e.t), .is (.int .u8 e.t), .bytes (w.heap.size + 1) [e.t], .bytes (w.heap.size + 1) ((m2 ++ wordL e.n) ++ [e.t]), .bytes (w.heap.size + 1) ((m2 ++ wordL e.n) ++ [e.t]), .bytes (w.heap.size + 1) m2] [(11, 4), (4, 9), (9, 10)] (oneF 11 z9) (by kernel_rfl) (by kernel_rfl) (inv_one (L := m2) rfl own3) ?_
  refine sw_move rfl _ rfl _ rfl rfl ?_
  simp only [Act.put, List.setIfInBounds_toArray, List.set_cons_succ, List.set_cons_zero]
  refine sw_val rfl _ rfl (fun W hb => ?_) ?_
  · obtain ⟨x0, -, -⟩ := (T3.callB hb (Nat.le_succ _) ⟨Nat.lt_succ_self _, trivial⟩).rules
    obtain ⟨y0, -⟩ := (T3.callB hb (Nat.le_succ _) ⟨Nat.lt_succ_self _, trivial⟩).lts
    simp [execOp, go_sem, x0, y0, HO.out, HT.out, HA.out]
  simp only [Act.put, List.setIfInBounds_toArray, List.set_cons_succ, List.set_cons_zero]
  refine sw_val rfl _ rfl (fun W hb => ?_) ?_
  · obtain ⟨x0, -, -⟩ := (T3.callB hb (Nat.le_succ _) ⟨Nat.lt_succ_self _, trivial⟩).rules
    obtain ⟨y0, -⟩ := (T3.callB hb (Nat.le_succ _) ⟨Nat.lt_succ_self _, trivial⟩).lts
    simp [execOp, go_sem, x0, y0, HO.out, HT.out, HA.out]
  simp only [Act.put, List.setIfInBounds_toArray, List.set_cons_succ, List.set_cons_zero]
  refine sw_call_bytes rfl 69 #[.int .u64 e.n] _ rfl hs3 ?_ (fun w => C4.out w) ?_
  · intro W; simp [go_sem] <;> rfl
  intro z3
  simp only [Act.put, List.setIfInBounds_toArray, List.set_cons_succ, List.set_cons_zero]
  refine sw_append_u8 rfl _ _ rfl 11 3 z9 z3 m2 (wordL e.n) rfl rfl rfl rfl (.inl rfl) (by repeat (first | exact Or.inl ⟨rfl, rfl⟩ | exact ⟨rfl, rfl⟩ | apply Or.inr)) (by repeat (first | exact Or.inl ⟨rfl, rfl⟩ | exact ⟨rfl, rfl⟩ | apply Or.inr)) (.inr (by simp)) (.inl (need_of rfl)) rfl rfl (by first | omega | (simp only [List.length_append]; omega)) hs3 ?_
  intro z4
  simp only [Act.put, List.setIfInBounds_toArray, List.set_cons_succ, List.set_cons_zero]
  refine sw_val rfl _ rfl (fun W hb => ?_) ?_
  · obtain ⟨x0, -, -⟩ := (T3.callB hb (Nat.le_succ _) ⟨Nat.lt_succ_self _, trivial⟩).rules
    obtain ⟨y0, -⟩ := (T3.callB hb (Nat.le_succ _) ⟨Nat.lt_succ_self _, trivial⟩).lts
    simp [execOp, go_sem, x0, y0, HO.out, HT.out, HA.out]
  simp only [Act.put, List.setIfInBounds_toArray, List.set_cons_succ, List.set_cons_zero]
  refine sw_val rfl _ rfl (fun W hb => ?_) ?_
  · obtain ⟨x0, -, -⟩ := (T3.callB hb (Nat.le_succ _) ⟨Nat.lt_succ_self _, trivial⟩).rules
    obtain ⟨y0, -⟩ := (T3.callB hb (Nat.le_succ _) ⟨Nat.lt_succ_self _, trivial⟩).lts
    simp [execOp, go_sem, x0, y0, HO.out, HT.out, HA.out]
  simp only [Act.put, List.setIfInBounds_toArray, List.set_cons_succ, List.set_cons_zero]
  refine sw_val rfl _ rfl (fun W hb => ?_) ?_
  · obtain ⟨x0, -, -⟩ := (T3.callB hb (Nat.le_succ _) ⟨Nat.lt_succ_self _, trivial⟩).rules
    obtain ⟨y0, -⟩ := (T3.callB hb (Nat.le_succ _) ⟨Nat.lt_succ_self _, trivial⟩).lts
    simp [execOp, go_sem, x0, y0, HO.out, HT.out, HA.out]
  simp only [Act.put, List.setIfInBounds_toArray, List.set_cons_succ, List.set_cons_zero]
  refine sw_lit rfl _ rfl _ rfl rfl hs3 ?_
  intro z8
  simp only [Act.put, List.setIfInBounds_toArray, List.set_cons_succ, List.set_cons_zero]
  refine sw_append_u8 rfl _ _ rfl 4 8 z4 z8 (m2 ++ wordL e.n) [e.t] rfl rfl rfl rfl (.inl rfl) (by repeat (first | exact Or.inl ⟨rfl, rfl⟩ | exact ⟨rfl, rfl⟩ | apply Or.inr)) (by repeat (first | exact Or.inl ⟨rfl, rfl⟩ | exact ⟨rfl, rfl⟩ | apply Or.inr)) (.inl (need_of rfl)) (.inl (need_of rfl)) rfl rfl (by first | omega | (simp only [List.length_append]; omega)) hs3 ?_
  intro z9
  simp only [Act.put, List.setIfInBounds_toArray, List.set_cons_succ, List.set_cons_zero]
  refine sw_pass rfl _ rfl 9 z9 ((m2 ++ wordL e.n) ++ [e.t]) rfl rfl rfl (by repeat (first | exact Or.inl ⟨rfl, rfl⟩ | exact ⟨rfl, rfl⟩ | apply Or.inr)) (.inl (need_of rfl)) rfl ?_
  intro z10
  simp only [Act.put, List.setIfInBounds_toArray, List.set_cons_succ, List.set_cons_zero]
  intro w4 ls hb4 hJ
  have own4 := inv_row (k := 10) (u := z10) (L := ((m2 ++ wordL e.n) ++ [e.t])) hJ (by repeat (first | exact Or.inl ⟨rfl, rfl⟩ | exact ⟨rfl, rfl⟩ | apply Or.inr)) rfl rfl
  have T4 := T3.callB hb4 (Nat.le_succ _) ⟨Nat.lt_succ_self _, trivial⟩
  have hs4 := Nat.le_trans hs3 hb4.size
  clear T3 hJ hb4 hs3
  generalize hm3 : (m2 ++ wordL e.n) ++ [e.t] = m3 at own4
  have hM3 : m3.length = 67 := by rw [← hm3, List.length_append, List.length_append]; omega
  have HM3 := Lib.hid hm3
  clear hm3 own3 hl1 hl2
  go_upto_region 6 with fail
  have hl1 : (wordL e.a).length = 8 := rfl
  have hl2 : (wordL e.r).length = 8 := rfl
  have hl3 : (wordL e.f).length = 8 := rfl
  refine sw_region (w.heap.size + 1) [.is z10, .is (.pointer (some ⟨w.heap.size, 11, none⟩)), .is (.int .i64 e.a), .is (.int .u64 e.a), .bytes (w.heap.size + 1) (wordL e.a), .bytes (w.heap.size + 1) (m3 ++ wordL e.a), .is (.pointer (some ⟨w.heap.size, 12, none⟩)), .is (.int .u64 e.r), .bytes (w.heap.size + 1) (wordL e.r), .bytes (w.heap.size + 1) ((m3 ++ wordL e.a) ++ wordL e.r), .is (.pointer (some ⟨w.heap.size, 13, none⟩)), .is (.int .u64 e.f), .bytes (w.heap.size + 1) (wordL e.f), .bytes (w.heap.size + 1) (((m3 ++ wordL e.a) ++ wordL e.r) ++ wordL e.f), .bytes (w.heap.size + 1) (((m3 ++ wordL e.a) ++ wordL e.r) ++ wordL e.f), .bytes (w.heap.size + 1) m3] [(15, 5), (5, 9), (9, 13), (13, 14)] (oneF 15 z10) (by kernel_rfl) (by kernel_rfl) (inv_one (L := m3) rfl own4) ?_
  refine sw_move rfl _ rfl _ rfl rfl ?_
  simp only [Act.put, List.setIfInBounds_toArray, List.set_cons_succ, List.set_cons_zero]
  refine sw_val rfl _ rfl (fun W hb => ?_) ?_
  · obtain ⟨x0, -, -⟩ := (T4.callB hb (Nat.le_succ _) ⟨Nat.lt_succ_self _, trivial⟩).rules
    obtain ⟨y0, -⟩ := (T4.callB hb (Nat.le_succ _) ⟨Nat.lt_succ_self _, trivial⟩).lts
    simp [execOp, go_sem, x0, y0, HO.out, HT.out, HA.out]
  simp only [Act.put, List.setIfInBounds_toArray, List.set_cons_succ, List.set_cons_zero]
  refine sw_val rfl _ rfl (fun W hb => ?_) ?_
  · obtain ⟨x0, -, -⟩ := (T4.callB hb (Nat.le_succ _) ⟨Nat.lt_succ_self _, trivial⟩).rules
    obtain ⟨y0, -⟩ := (T4.callB hb (Nat.le_succ _) ⟨Nat.lt_succ_self _, trivial⟩).lts
    simp [execOp, go_sem, x0, y0, HO.out, HT.out, HA.out]
  simp only [Act.put, List.setIfInBounds_toArray, List.set_cons_succ, List.set_cons_zero]
  refine sw_val rfl _ rfl (fun W hb => ?_) ?_
  · obtain ⟨x0, -, -⟩ := (T4.callB hb (Nat.le_succ _) ⟨Nat.lt_succ_self _, trivial⟩).rules
    obtain ⟨y0, -⟩ := (T4.callB hb (Nat.le_succ _) ⟨Nat.lt_succ_self _, trivial⟩).lts
    simp [execOp, go_sem, x0, y0, HO.out, HT.out, HA.out]
  simp only [Act.put, List.setIfInBounds_toArray, List.set_cons_succ, List.set_cons_zero]
  refine sw_call_bytes rfl 69 #[.int .u64 e.a] _ rfl hs4 ?_ (fun w => C5.out w) ?_
  · intro W; simp [go_sem] <;> rfl
  intro z4
  simp only [Act.put, List.setIfInBounds_toArray, List.set_cons_succ, List.set_cons_zero]
  refine sw_append_u8 rfl _ _ rfl 15 4 z10 z4 m3 (wordL e.a) rfl rfl rfl rfl (.inl rfl) (by repeat (first | exact Or.inl ⟨rfl, rfl⟩ | exact ⟨rfl, rfl⟩ | apply Or.inr)) (by repeat (first | exact Or.inl ⟨rfl, rfl⟩ | exact ⟨rfl, rfl⟩ | apply Or.inr)) (.inr (by simp)) (.inl (need_of rfl)) rfl rfl (by first | omega | (simp only [List.length_append]; omega)) hs4 ?_
  intro z5
  simp only [Act.put, List.setIfInBounds_toArray, List.set_cons_succ, List.set_cons_zero]
  refine sw_val rfl _ rfl (fun W hb => ?_) ?_
  · obtain ⟨x0, -, -⟩ := (T4.callB hb (Nat.le_succ _) ⟨Nat.lt_succ_self _, trivial⟩).rules
    obtain ⟨y0, -⟩ := (T4.callB hb (Nat.le_succ _) ⟨Nat.lt_succ_self _, trivial⟩).lts
    simp [execOp, go_sem, x0, y0, HO.out, HT.out, HA.out]
  simp only [Act.put, List.setIfInBounds_toArray, List.set_cons_succ, List.set_cons_zero]
  refine sw_val rfl _ rfl (fun W hb => ?_) ?_
  · obtain ⟨x0, -, -⟩ := (T4.callB hb (Nat.le_succ _) ⟨Nat.lt_succ_self _, trivial⟩).rules
    obtain ⟨y0, -⟩ := (T4.callB hb (Nat.le_succ _) ⟨Nat.lt_succ_self _, trivial⟩).lts
    simp [execOp, go_sem, x0, y0, HO.out, HT.out, HA.out]
  simp only [Act.put, List.setIfInBounds_toArray, List.set_cons_succ, List.set_cons_zero]
  refine sw_call_bytes rfl 69 #[.int .u64 e.r] _ rfl hs4 ?_ (fun w => C6.out w) ?_
  · intro W; simp [go_sem] <;> rfl
  intro z8
  simp only [Act.put, List.setIfInBounds_toArray, List.set_cons_succ, List.set_cons_zero]
  refine sw_append_u8 rfl _ _ rfl 5 8 z5 z8 (m3 ++ wordL e.a) (wordL e.r) rfl rfl rfl rfl (.inl rfl) (by repeat (first | exact Or.inl ⟨rfl, rfl⟩ | exact ⟨rfl, rfl⟩ | apply Or.inr)) (by repeat (first | exact Or.inl ⟨rfl, rfl⟩ | exact ⟨rfl, rfl⟩ | apply Or.inr)) (.inl (need_of rfl)) (.inl (need_of rfl)) rfl rfl (by first | omega | (simp only [List.length_append]; omega)) hs4 ?_
  intro z9
  simp only [Act.put, List.setIfInBounds_toArray, List.set_cons_succ, List.set_cons_zero]
  refine sw_val rfl _ rfl (fun W hb => ?_) ?_
  · obtain ⟨x0, -, -⟩ := (T4.callB hb (Nat.le_succ _) ⟨Nat.lt_succ_self _, trivial⟩).rules
    obtain ⟨y0, -⟩ := (T4.callB hb (Nat.le_succ _) ⟨Nat.lt_succ_self _, trivial⟩).lts
    simp [execOp, go_sem, x0, y0, HO.out, HT.out, HA.out]
  simp only [Act.put, List.setIfInBounds_toArray, List.set_cons_succ, List.set_cons_zero]
  refine sw_val rfl _ rfl (fun W hb => ?_) ?_
  · obtain ⟨x0, -, -⟩ := (T4.callB hb (Nat.le_succ _) ⟨Nat.lt_succ_self _, trivial⟩).rules
    obtain ⟨y0, -⟩ := (T4.callB hb (Nat.le_succ _) ⟨Nat.lt_succ_self _, trivial⟩).lts
    simp [execOp, go_sem, x0, y0, HO.out, HT.out, HA.out]
  simp only [Act.put, List.setIfInBounds_toArray, List.set_cons_succ, List.set_cons_zero]
  refine sw_call_bytes rfl 69 #[.int .u64 e.f] _ rfl hs4 ?_ (fun w => C7.out w) ?_
  · intro W; simp [go_sem] <;> rfl
  intro z12
  simp only [Act.put, List.setIfInBounds_toArray, List.set_cons_succ, List.set_cons_zero]
  refine sw_append_u8 rfl _ _ rfl 9 12 z9 z12 ((m3 ++ wordL e.a) ++ wordL e.r) (wordL e.f) rfl rfl rfl rfl (.inl rfl) (by repeat (first | exact Or.inl ⟨rfl, rfl⟩ | exact ⟨rfl, rfl⟩ | apply Or.inr)) (by repeat (first | exact Or.inl ⟨rfl, rfl⟩ | exact ⟨rfl, rfl⟩ | apply Or.inr)) (.inl (need_of rfl)) (.inl (need_of rfl)) rfl rfl (by first | omega | (simp only [List.length_append]; omega)) hs4 ?_
  intro z13
  simp only [Act.put, List.setIfInBounds_toArray, List.set_cons_succ, List.set_cons_zero]
  refine sw_pass rfl _ rfl 13 z13 (((m3 ++ wordL e.a) ++ wordL e.r) ++ wordL e.f) rfl rfl rfl (by repeat (first | exact Or.inl ⟨rfl, rfl⟩ | exact ⟨rfl, rfl⟩ | apply Or.inr)) (.inl (need_of rfl)) rfl ?_
  intro z14
  simp only [Act.put, List.setIfInBounds_toArray, List.set_cons_succ, List.set_cons_zero]
  intro w5 ls hb5 hJ
  have own5 := inv_row (k := 14) (u := z14) (L := (((m3 ++ wordL e.a) ++ wordL e.r) ++ wordL e.f)) hJ (by repeat (first | exact Or.inl ⟨rfl, rfl⟩ | exact ⟨rfl, rfl⟩ | apply Or.inr)) rfl rfl
  have T5 := T4.callB hb5 (Nat.le_succ _) ⟨Nat.lt_succ_self _, trivial⟩
  have hs5 := Nat.le_trans hs4 hb5.size
  clear T4 hJ hb5 hs4
  have hfin : ((m3 ++ wordL e.a) ++ wordL e.r) ++ wordL e.f = evL e := by rw [HF.out, ← HM3.out, ← HM2.out, ← HM1.out]
  rw [hfin] at own5
  clear hfin own4
  go_wp2_with fail
  go_ret
  exact ⟨_, rfl, own_mono own5 (Nat.le_succ _), T5.below⟩
theorem rput8 (e : Ev) (hv : e.ok) (w : World) : Calls Try.prog 36 #[.agg (evA e)] w (GivesB (putE e) w) := by
  cases h : emayB e with
  | false => rw [putE_no h]; exact rput_no e hv h w
  | true => rw [putE_yes h]; exact rput_yes e hv h w
end Go.Proofs.Ytolfnilickfneaa
namespace Go.Proofs.Ytolfnilickfneaa
set_option linter.unusedVariables false
set_option linter.unusedSimpArgs false
open Go.RowKit

set_option maxHeartbeats 400000 in
theorem rnumber (b o cap : Nat) (l : List Int) (m : Nat) (w : World) (hc : ∀ i x, l[i]? = some x → w.cell? ⟨b, o + i, none⟩ = some (.int .u8 x)) (hn : l.length ≤ cap) (hm : cap ≤ maxLen) (hby : ∀ c ∈ l, 0 ≤ c ∧ c ≤ 255) (h : m + 8 ≤ l.length) :
    Calls Try.prog 60 #[.slice (some ⟨b, o, none⟩) l.length cap, .int .i64 m] w fun e w' => e = .returned (.int .u64 (numL ((l.drop m).take 8))) ∧ w = w' := by
  have hm1 : cap ≤ 9223372036854775807 := hm
  have HC := Lib.hid hc
  clear hc
  go_enter Try.func60, Try.ntmps60
  go_wp2_with fail
  go_loop [5, 6] (fun n i => ∃ j : Nat, j ≤ 8 ∧ i = .int .i64 j ∧ n = .int .u64 (numL ((l.drop m).take j))) (fun _ i => 8 - (intOf i).toNat)
  case atStart => exact ⟨0, by omega, rfl, rfl⟩
  case round =>
    obtain ⟨j, hj, rfl, rfl⟩ := hrel
    by_cases hlt : j < 8
    · obtain ⟨x, hx⟩ : ∃ x, l[m + j]? = some x := ⟨l[m + j]'(by omega), List.getElem?_eq_getElem (by omega)⟩
      have hcell := HC.out _ x hx
      obtain ⟨x0, x1⟩ := hby x (List.mem_of_getElem? hx)
      have hnum := Lib.hid (numL_take (l.drop m) j x (by rw [List.getElem?_drop]; exact hx))
      have hor := or_byte (numL ((l.drop m).take j)) x x0 (by omega)
      generalize numL ((l.drop m).take j) = n at hnum hor
      have hwr : IntKind.u64.wrap (n * 256) = n * 256 % 18446744073709551616 := IntKind.wrap_u64 _
      clear hx
      go_wp2_with fail
      go_round
      case rel => exact ⟨j + 1, by omega, by go_num, by rw [hnum.out]⟩
      case measure => simp [intOf]; omega
    · obtain rfl : j = 8 := by omega
      clear hj hlt
      go_wp2_with fail
      go_ret
      exact ⟨rfl, rfl⟩
theorem rid (e : Ev) (hv : e.ok) (w : World) : Calls Try.prog 38 #[.agg (evA e)] w fun r w' => r = .returned (.int .u64 (idE e)) ∧ Below w.heap.size w w' := by
  have hs := hv.s
  cases hr : regE e.o with
  | false =>
    have C1 := Lib.hid (rregion_is e.o false hr)
    have HI := Lib.hid (show idE e = 0 from by unfold idE; rw [hr]; rfl)
    clear hr
    go_enter Try.func38, Try.ntmps38
    go_wp2_with (go_at_call 48; (with_reducible refine (C1.out _).mono ?_); rintro r w1 ⟨rfl, rfl⟩)
    go_ret
    exact ⟨by rw [HI.out]; rfl, (Below.refl _ _).alloc (Nat.le_refl _) _⟩
  | true =>
    have C1 := Lib.hid (rregion_is e.o true hr)
    obtain ⟨k, hk, ho⟩ := regE_out hr
    have HI := Lib.hid (show idE e = (e.o * 1099511627776 + e.s) % 18446744073709551616 from by unfold idE; rw [hr]; rfl)
    have o1 : 1 ≤ e.o := by omega
    have o2 : e.o ≤ 6 := by omega
    clear hr ho
    go_enter Try.func38, Try.ntmps38
    go_wp2_with (go_at_call 48; (with_reducible refine (C1.out _).mono ?_); rintro r w1 ⟨rfl, rfl⟩)
    go_ret
    refine ⟨?_, (Below.refl _ _).alloc (Nat.le_refl _) _⟩
    rw [HI.out]
    refine ret_int ?_
    simp only [IntKind.wrap_u64]
    try omega
end Go.Proofs.Ytolfnilickfneaa
