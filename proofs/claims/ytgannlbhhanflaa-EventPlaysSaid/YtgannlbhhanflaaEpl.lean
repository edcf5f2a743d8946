/-
  The walk of EventPlays.
-/
import Derived.Test.YtgannlbhhanflaaEm
import Derived.Test.YtgannlbhhanflaaEa
import Derived.Test.YtgannlbhhanflaaRa
import Derived.Test.YtgannlbhhanflaaSm08
import Derived.Test.YtgannlbhhanflaaEnP
import Derived.Test.YtgannlbhhanflaaOwn2
namespace Go.Proofs.Ytgannlbhhanflaa
set_option linter.unusedVariables false
set_option linter.unusedSimpArgs false
open Go.RowKit

theorem append_u8k {ops : Array Oper} {rest : List Oper} {o : Oper} {a : Act} {Q : Exit → Act → World → Prop} (w : World) (hgd : o.guard = none) (s x : Operand)
    (ho : o.op = .call { callee := .builtin .append, args := #[s, x], argTypes := #[43, 43] })
    (base : Nat) (v : Value) (L M : List Int) (m : Nat) (hm : M.length = m) (hs : a.eval s = v) (hown : w.ownsRow base 5 1 v L.length (bcells L)) (A : Option Addr) (c B : Nat) (hx : a.eval x = .slice A m c) (hM : BRows w B A M)
    (hn : L.length + M.length ≤ 1000000000) (hbase : base ≤ w.heap.size)
    (h : ∀ v' w', w'.ownsRow base 5 1 v' (L ++ M).length (bcells (L ++ M)) → Below base w w' → w.grownBy w' v.ownBlock → wpList Try.prog ops Q rest (a.put o.dst v') w') : wpList Try.prog ops Q (o :: rest) a w := by
  subst hm; exact append_u8sG w hgd s x ho base v L M hs hown A c B hx hM hn hbase h
theorem allE_length_le (l : List Int) : (allE l).1.length ≤ l.length := by
  unfold allE
  split
  · simp only [evsAt_length]; exact Nat.div_le_self _ _
  · exact Nat.zero_le _
set_option maxRecDepth 100000 in
set_option maxHeartbeats 8000000 in
theorem eplays_law (e : Ev) (oe : e.ok) (A : Option Addr) (cap : Nat) (l : List Int) (at_ : Int) (a0 : -9223372036854775808 ≤ at_) (a1 : at_ ≤ 9223372036854775807) (w : World) (hL : BRows w w.heap.size A l) (hc : l.length ≤ cap) (hm : cap ≤ maxLen) (hby : ∀ c ∈ l, 0 ≤ c ∧ c ≤ 255) :
    Calls Try.prog 6 #[.agg (evA e), .slice A l.length cap, .int .i64 at_] w fun r w' => r = .returned (.bool true) ∧ Below w.heap.size w w' := by
  have hm1 : cap ≤ 9223372036854775807 := hm
  by_cases hn : 3000 < l.length
  · go_enter Try.func6, Try.ntmps6
    go_wp2_with (go_at_call 27; (refine (works08 _).mono ?_); rintro r w1 ⟨rfl, hb⟩)
    go_ret
    exact ⟨rfl, ((Below.refl _ _).alloc (Nat.le_refl _) _).trans (hb.mono (by simp))⟩
  have hn2 : l.length ≤ 3000 := by omega
  obtain ⟨X, nx, er, hT⟩ : ∃ X nx er, takeE l at_ = (X, nx, er) := ⟨_, _, _, rfl⟩
  obtain ⟨M, em, hM⟩ : ∃ M em, allE l = (M, em) := ⟨_, _, rfl⟩
  have hMl : M.length ≤ l.length := by have := allE_length_le l; rw [hM] at this; exact this
  have H1 := Lib.hid fun (A7 : Option Addr) (c7 : Nat) (W : World) (h7 : BytesIs l (.slice A7 l.length c7) W) => (show Calls Try.prog 30 #[.slice A7 l.length c7, .int .i64 at_] W (fun r w' => r = .returned (.tuple #[.agg (evA X), .int .i64 nx, .int .i64 er]) ∧ Below W.heap.size W w') from by
    obtain ⟨A', c', e', h1, h2, h3⟩ := h7
    injection e' with e1 e2 e3
    subst e1 e3
    have := etake A7 c7 l W.heap.size at_ W h3 (Nat.le_refl _) h1 h2 hby a0 a1
    rw [hT] at this
    exact this)
  have H2 := Lib.hid fun (W : World) (hW : Below w.heap.size w W) => (show Calls Try.prog 31 #[.slice A l.length cap, .int .i64 at_] W (fun r w' => r = .returned (.tuple #[.agg (evA X), .int .i64 nx, .int .i64 er]) ∧ Below W.heap.size W w') from by
    have := rtake A cap l w.heap.size at_ W (hL.below hW) hW.size hc hm hby a0 a1
    rw [hT] at this
    exact this)
  have H3 := Lib.hid fun (A7 : Option Addr) (c7 : Nat) (W : World) (h7 : BytesIs l (.slice A7 l.length c7) W) => (show Calls Try.prog 32 #[.slice A7 l.length c7] W (GivesEI M em W) from by
    obtain ⟨A', c', e', h1, h2, h3⟩ := h7
    injection e' with e1 e2 e3
    subst e1 e3
    have := eall A7 c7 l W.heap.size W h3 (Nat.le_refl _) h1 h2 (by omega) hby
    rw [hM] at this
    exact this)
  have H4 := Lib.hid fun (W : World) (hW : Below w.heap.size w W) => (show Calls Try.prog 33 #[.slice A l.length cap] W (GivesEI M em W) from by
    have := rall8 A cap l w.heap.size W (hL.below hW) hW.size hc hm (by omega) hby
    rw [hM] at this
    exact this)
  have HL := Lib.hid hL
  have HB2 := Lib.hid fun (W : World) (hW : Below w.heap.size w W) => (show BytesIs l (.slice A l.length cap) W from ⟨A, cap, rfl, hc, hm, fun hne => by
    obtain ⟨b, o, e', hlt, hcc⟩ := (hL.below hW) hne
    exact ⟨b, o, e', Nat.lt_of_lt_of_le hlt hW.size, hcc⟩⟩)
  obtain ⟨mb, hmb⟩ : ∃ m, emayB e = m := ⟨_, rfl⟩
  have C1 := Lib.hid (emay' e oe mb hmb)
  have C2 := Lib.hid (rmay8' e oe mb hmb)
  have C3 := Lib.hid (eput e oe)
  have C4 := Lib.hid (rput8 e oe)
  have C5 := Lib.hid (eid e oe)
  have C6 := Lib.hid (rid e oe)
  generalize putE e = P at C3 C4
  generalize idE e = ie at C5 C6
  clear hT hM hmb oe hby hL hn a0 a1
  go_enter Try.func6, Try.ntmps6
  go_upto_region 3 with fail
  have T1 : Trk w _ [(w.heap.size, 40, evA e)] := (Trk.nil w).push (t := 40) (cs := evA e) rfl
  generalize w.alloc _ = w1 at T1 ⊢
  have hz1 := T1.below.size
  go_wp2_with (at_builtin; refine append_u8k _ rfl (.tmp 22) (.tmp 23) rfl w1.heap.size _ [] l l.length rfl rfl ?h1 A cap w.heap.size rfl ?h2 ?h3 ?h4 ?_; (case h1 => exact World.ownsRow_made w1 #[] 0 (Nat.le_refl _) (by decide) rfl); (case h2 => exact (HL.out.below T1.below).below ((Below.refl _ _).alloc hz1 _)); (case h3 => simp; omega); (case h4 => simp); intro v1 w2 ownB hba _; rw [List.nil_append] at ownB; have T2 := T1.call (((Below.refl _ _).alloc (Nat.le_refl _) _).trans hba); clear hba)
  have hbs2 := BytesIs.of_own ownB
  clear T1 hz1
  obtain ⟨A7, c7, rfl, hc7, hm7, -⟩ := own_open ownB
  clear ownB
  go_wp2_with fail
  refine (H1.out A7 c7 w2 hbs2).mono ?_
  rintro r w3 ⟨rfl, hb3⟩
  have hbs3 := hbs2.keep _ _ _ _ hb3
  have T3 := (T2.call hb3).push (t := 40) (cs := evA X) rfl
  clear T2 hbs2 hb3
  go_wp2_with fail
  refine (H2.out _ T3.below).mono ?_
  rintro r w4 ⟨rfl, hb4⟩
  have hbs4 := (hbs3.keep _ _ _ _ ((Below.refl _ _).alloc (Nat.le_refl _) (.cells (evA X) 40))).keep _ _ _ _ hb4
  have T4 := (T3.call hb4).push (t := 40) (cs := evA X) rfl
  have hbs5 := hbs4.keep _ _ _ _ ((Below.refl _ _).alloc (Nat.le_refl _) (.cells (evA X) 40))
  clear hbs3 hbs4 hb4 T3
  go_wp2_with fail
  refine (H3.out A7 c7 _ hbs5).mono ?_
  rintro r w5 ⟨u5, rfl, own5, hb5⟩
  have hbs6 := hbs5.keep _ _ _ _ hb5
  have T5 := T4.call hb5
  clear T4 hb5 hbs5
  go_wp2_with fail
  refine (H4.out _ T5.below).mono ?_
  rintro r w6 ⟨u6, rfl, own6, hb6⟩
  have hbs7 := hbs6.keep _ _ _ _ hb6
  have T6 := T5.call hb6
  have own5' := ownsRow_below own5 hb6
  obtain ⟨A8, c8, rfl, hc8, hm8, hR8⟩ := own_open own5'
  obtain ⟨A9, c9, rfl, hc9, hm9, hR9⟩ := own_open own6
  have C7 := Lib.hid (rsame08 A8 A9 c8 c9 w6.heap.size M M w6 hR8 hR9 (Nat.le_refl _) hc8 hm8 hc9 hm9)
  clear T5 hb6 hbs6 own5 own5' own6 hR8 hR9
  obtain ⟨q2, -, q1, -, q0, -, -⟩ := T6.rules
  obtain ⟨l2, l1, l0, -⟩ := T6.lts
  have hdM : decide (M = M) = true := by simp
  rw [hdM] at C7
  clear hdM
  go_wp2_with fail
  refine C7.out.mono ?_
  rintro r w7 ⟨rfl, hb7⟩
  have hbs8 := hbs7.keep _ _ _ _ hb7
  have T7 := T6.call hb7
  have hbA := HB2.out w7 T7.below
  have hse : ((strOfNums l).toList == (strOfNums l).toList) = true := by simp
  clear T6 hb7 hbs7 q0 q1 q2 l0 l1 l2
  have hcv1 := run_conv_bytes 43 5 9 Try.underlying43 Try.underlying5 Try.underlying9 hbs8
  have hcv2 := run_conv_bytes 43 5 9 Try.underlying43 Try.underlying5 Try.underlying9 hbA
  clear hbs8 hbA
  go_wp2_with fail
  refine lw_region [.is (.agg (evA e)), .is (.bool mb), .is (.agg (evA e)), .is (.bool mb), .is (.bool true), .is (.bool true), .is (.agg (evA e)), .bytes P, .is (.string (strOfNums P)), .is (.agg (evA e)), .bytes P, .is (.string (strOfNums P)), .is (.bool true), .is (.bool true), .is (.bool true),
    .is (.agg (evA e)), .is (.int .u64 ie), .is (.agg (evA e)), .is (.int .u64 ie), .is (.bool true), .is (.bool true), .is (.bool true), .is (.bool true), .is (.bool true), .is (.bool true)] (by kernel_rfl) (by kernel_rfl) ?_
  repeat
    first
      | refine lw_loade T7 rfl _ rfl _ _ rfl rfl (by simp) ?_
      | refine lw_move rfl _ rfl _ rfl rfl ?_
      | refine lw_assign rfl _ rfl _ rfl rfl ?_
      | refine lw_pickT rfl _ _ _ rfl rfl _ rfl rfl ?_
      | refine lw_convR rfl _ rfl 7 _ rfl (by rfl) (by repeat (first | exact Or.inl ⟨rfl, rfl⟩ | apply Or.inr)) _ rfl rfl ?_
      | refine lw_convR rfl _ rfl 10 _ rfl (by rfl) (by repeat (first | exact Or.inl ⟨rfl, rfl⟩ | apply Or.inr)) _ rfl rfl ?_
      | ((refine lw_call rfl 26 #[.agg (evA e)] _ rfl ?_ (fun w _ => C1.out w) ?_); (· intro w; simp [go_sem] <;> rfl))
      | ((refine lw_call rfl 35 #[.agg (evA e)] _ rfl ?_ (fun w _ => C2.out w) ?_); (· intro w; simp [go_sem] <;> rfl))
      | ((refine lw_call rfl 28 #[.agg (evA e)] _ rfl ?_ (fun w _ => C5.out w) ?_); (· intro w; simp [go_sem] <;> rfl))
      | ((refine lw_call rfl 37 #[.agg (evA e)] _ rfl ?_ (fun w _ => C6.out w) ?_); (· intro w; simp [go_sem] <;> rfl))
      | ((refine lw_call_rel rfl 29 #[.agg (evA e)] _ _ rfl ?_ (fun w _ => gives_rel (C3.out w)) ?_); (· intro w; simp [go_sem] <;> rfl); intro z)
      | ((refine lw_call_rel rfl 36 #[.agg (evA e)] _ _ rfl ?_ (fun w _ => gives_rel (C4.out w)) ?_); (· intro w; simp [go_sem] <;> rfl); intro z)
      | ((refine lw_call rfl 27 #[] _ rfl ?_ (fun w _ => works08 w) ?_); (· intro w; simp [go_sem] <;> rfl))
      | ((refine lw_bin rfl _ _ _ _ _ rfl _ _ rfl rfl _ rfl ?_ ?_); (· intro ρ w h1 h2; simp [execOp, h1, h2, go_sem]))
    simp only [Act.put, List.setIfInBounds_toArray, List.set_cons_succ, List.set_cons_zero]
  intro w8 hb8
  have T8 := T7.call hb8
  go_wp2_with fail
  go_ret
  exact ⟨rfl, T8.below⟩
end Go.Proofs.Ytgannlbhhanflaa
