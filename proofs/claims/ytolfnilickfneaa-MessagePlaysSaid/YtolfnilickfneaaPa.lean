/-
  The walk of MessagePlays.
-/
import Derived.Test.YtolfnilickfneaaGM
namespace Go.Proofs.Ytolfnilickfneaa
set_option linter.unusedVariables false
set_option linter.unusedSimpArgs false
open Go.RowKit
set_option maxRecDepth 100000

set_option maxHeartbeats 8000000 in
theorem mplays_law (m : Ms) (om : m.ok) (A : Option Addr) (c : Nat) (R : Option Addr) (cap : Nat) (l : List Int) (w : World) (hE : ERows w w.heap.size A m.l) (hce : m.l.length ≤ c) (hme : c ≤ maxLen) (hL : BRows w w.heap.size R l) (hc : l.length ≤ cap) (hm : cap ≤ maxLen) (hby : ∀ c ∈ l, 0 ≤ c ∧ c ≤ 255) :
    Calls Try.prog 6 #[.agg (mcA ⟨m.k, m.f, m.t, m.d, .slice A m.l.length c, m.n, m.a⟩), .slice R l.length cap] w fun r w' => r = .returned (.bool true) ∧ Below w.heap.size w w' := by
  have hm1 : cap ≤ 9223372036854775807 := hm
  have hm2 : c ≤ 9223372036854775807 := hme
  by_cases hn : 40 < m.l.length ∨ 4000 < l.length
  · clear hE hL hby om
    generalize m.l.length = nl at *
    rcases hn with hn | hn
    · go_enter Try.func6, Try.ntmps6
      go_wp2_with (go_at_call 39; (refine (works20 _).mono ?_); rintro r w1 ⟨rfl, hb⟩)
      all_goals
        go_ret
        exact ⟨rfl, ((Below.refl _ _).alloc (Nat.le_refl _) _).trans (hb.mono (by simp))⟩
    · go_enter Try.func6, Try.ntmps6
      go_wp2_with (go_at_call 39; (refine (works20 _).mono ?_); rintro r w1 ⟨rfl, hb⟩)
      all_goals
        go_ret
        exact ⟨rfl, ((Below.refl _ _).alloc (Nat.le_refl _) _).trans (hb.mono (by simp))⟩
  have hn1 : m.l.length ≤ 40 := by omega
  have hn2 : l.length ≤ 4000 := by omega
  obtain ⟨x, er, hG⟩ : ∃ x er, getM l = (x, er) := ⟨_, _, rfl⟩
  have H1 := Lib.hid (mget' l (by omega) hby)
  have H2 := Lib.hid (rget20' l (by omega) hby)
  rw [hG] at H1 H2
  have HL := Lib.hid hL
  have HB2 := Lib.hid fun (W : World) (hW : Below w.heap.size w W) => BytesIs.of_rows hL hc hm hW
  obtain ⟨mb, hmb⟩ : ∃ b, mmayB m = b := ⟨_, rfl⟩
  have C1 := Lib.hid fun W (hW : Below w.heap.size w W) => mmay' m om mb hmb A c W (hE.next hW) hce hme
  have C2 := Lib.hid fun W (hW : Below w.heap.size w W) => rmay20' m om mb hmb A c W (hE.next hW) hce hme
  have C3 := Lib.hid fun W (hW : Below w.heap.size w W) => mput m om A c W (hE.next hW) hce hme
  have C4 := Lib.hid fun W (hW : Below w.heap.size w W) => rput20 m om A c W (hE.next hW) hce hme
  generalize putM m = P at C3 C4
  clear hG hmb hby hL hn om hE
  have hx0 := hn1
  generalize m.l.length = nl at *
  go_enter Try.func6, Try.ntmps6
  go_upto_region 3 with fail
  have T1 : Trk w _ [(w.heap.size, 54, mcA ⟨m.k, m.f, m.t, m.d, .slice A nl c, m.n, m.a⟩)] := (Trk.nil w).push (t := 54) (cs := mcA ⟨m.k, m.f, m.t, m.d, .slice A nl c, m.n, m.a⟩) rfl
  generalize w.alloc _ = w1 at T1 ⊢
  have hz1 := T1.below.size
  go_wp2_with (at_builtin; refine append_u8q _ rfl (.tmp 20) (.tmp 21) rfl w1.heap.size _ [] l l.length rfl rfl ?h1 R cap w.heap.size rfl ?h2 ?h3 ?h4 ?_; (case h1 => exact World.ownsRow_made w1 #[] 0 (Nat.le_refl _) (by decide) rfl); (case h2 => exact (HL.out.below T1.below).below ((Below.refl _ _).alloc hz1 _)); (case h3 => simp; omega); (case h4 => simp); intro v1 w2 ownB hba _; rw [List.nil_append] at ownB; have T2 := T1.call (((Below.refl _ _).alloc (Nat.le_refl _) _).trans hba); clear hba)
  have hbs2 := BytesIs.of_own ownB
  clear T1 hz1
  obtain ⟨A7, c7, rfl, hc7, hm7, -⟩ := own_open ownB
  clear ownB
  go_wp2_with fail
  refine (H1.out A7 c7 w2 hbs2).mono ?_
  rintro r w3 ⟨u3, rfl, own3, hb3⟩
  simp only at own3 ⊢
  obtain ⟨A8, c8, rfl, hc8, hm8, -⟩ := own_open own3
  have hbs3 := hbs2.keep _ _ _ _ hb3
  have T3 := (T2.call hb3).push (t := 54) (cs := mcA ⟨x.k, x.f, x.t, x.d, .slice A8 x.l.length c8, x.n, x.a⟩) rfl
  have own4 := own3.alloc (.cells (mcA ⟨x.k, x.f, x.t, x.d, .slice A8 x.l.length c8, x.n, x.a⟩) 54)
  have hbs4 := hbs3.keep _ _ _ _ ((Below.refl _ _).alloc (Nat.le_refl _) (.cells (mcA ⟨x.k, x.f, x.t, x.d, .slice A8 x.l.length c8, x.n, x.a⟩) 54))
  clear T2 hbs2 hb3 own3 hbs3
  go_wp2_with fail
  refine (H2.out R cap _ (HB2.out _ T3.below)).mono ?_
  rintro r w4 ⟨u4, rfl, own5, hb4⟩
  simp only at own5 ⊢
  obtain ⟨A9, c9, rfl, hc9, hm9, -⟩ := own_open own5
  have hbs5 := hbs4.keep _ _ _ _ hb4
  have T4 := (T3.call hb4).push (t := 54) (cs := mcA ⟨x.k, x.f, x.t, x.d, .slice A9 x.l.length c9, x.n, x.a⟩) rfl
  have own6 := (ownsRow_below own4 hb4).alloc (.cells (mcA ⟨x.k, x.f, x.t, x.d, .slice A9 x.l.length c9, x.n, x.a⟩) 54)
  have own7 := own5.alloc (.cells (mcA ⟨x.k, x.f, x.t, x.d, .slice A9 x.l.length c9, x.n, x.a⟩) 54)
  have hbs6 := hbs5.keep _ _ _ _ ((Below.refl _ _).alloc (Nat.le_refl _) (.cells (mcA ⟨x.k, x.f, x.t, x.d, .slice A9 x.l.length c9, x.n, x.a⟩) 54))
  clear T3 hbs4 hb4 own4 own5 hbs5
  generalize hg4 : w4.heap.size = g4 at T4 own7
  generalize hg3 : w3.heap.size = g3 at T4
  go_upto_region 6 with fail
  clear hg4 hg3
  generalize w4.alloc _ = w5 at T4 own6 own7 hbs6 ⊢
  have hR8 : ERows w5 w5.heap.size A8 x.l := Rd.of_own own6
  have hR9 : ERows w5 w5.heap.size A9 x.l := Rd.of_own own7
  have C5 := Lib.hid fun W (hW : Below w5.heap.size w5 W) => (show Calls Try.prog 46 #[.agg (mcA ⟨x.k, x.f, x.t, x.d, .slice A8 x.l.length c8, x.n, x.a⟩), .agg (mcA ⟨x.k, x.f, x.t, x.d, .slice A9 x.l.length c9, x.n, x.a⟩)] W (fun r w' => r = .returned (.bool true) ∧ Below W.heap.size W w') from by
    have := rsame20 x x A8 A9 c8 c9 W (hR8.next hW) (hR9.next hW) hc8 hm8 hc9 hm9
    rw [show decide (x = x) = true from by simp] at this
    exact this)
  have hbA := HB2.out w5 T4.below
  clear own6 own7 hR8 hR9
  generalize x.l.length = nx at *
  refine lw_region [.is (.agg (mcA ⟨m.k, m.f, m.t, m.d, .slice A nl c, m.n, m.a⟩)), .is (.bool mb), .is (.agg (mcA ⟨m.k, m.f, m.t, m.d, .slice A nl c, m.n, m.a⟩)), .is (.bool mb), .is (.bool true), .is (.bool true), .is (.agg (mcA ⟨m.k, m.f, m.t, m.d, .slice A nl c, m.n, m.a⟩)), .bytes P, .is (.string (strOfNums P)), .is (.agg (mcA ⟨m.k, m.f, m.t, m.d, .slice A nl c, m.n, m.a⟩)), .bytes P, .is (.string (strOfNums P)), .is (.bool true), .is (.bool true), .is (.bool true),
    .is (.int .i64 er), .is (.int .i64 er), .is (.bool true), .is (.bool true), .is (.bool true), .is (.agg (mcA ⟨x.k, x.f, x.t, x.d, .slice A8 nx c8, x.n, x.a⟩)), .is (.agg (mcA ⟨x.k, x.f, x.t, x.d, .slice A9 nx c9, x.n, x.a⟩)), .is (.bool true), .is (.bool true), .is (.bool true),
    .is (.slice A7 l.length c7), .is (.string (strOfNums l)), .is (.slice R l.length cap), .is (.string (strOfNums l)), .is (.bool true), .is (.bool true), .is (.bool true), .is (.bool true), .is (.bool true), .is (.bool true)] (by kernel_rfl) (by kernel_rfl) ?_
  repeat
    first
      | refine lw_loadm T4 rfl _ rfl _ _ rfl rfl (by simp) ?_
      | refine lw_move rfl _ rfl _ rfl rfl ?_
      | refine lw_assign rfl _ rfl _ rfl rfl ?_
      | refine lw_pickT rfl _ _ _ rfl rfl _ rfl rfl ?_
      | refine lw_conv rfl _ rfl _ rfl l hbs6 rfl ?_
      | refine lw_conv rfl _ rfl _ rfl l hbA rfl ?_
      | refine lw_convR rfl _ rfl 7 _ rfl (by rfl) (by repeat (first | exact Or.inl ⟨rfl, rfl⟩ | apply Or.inr)) _ rfl rfl ?_
      | refine lw_convR rfl _ rfl 10 _ rfl (by rfl) (by repeat (first | exact Or.inl ⟨rfl, rfl⟩ | apply Or.inr)) _ rfl rfl ?_
      | ((refine lw_call rfl 42 #[.agg (mcA ⟨m.k, m.f, m.t, m.d, .slice A nl c, m.n, m.a⟩)] _ rfl ?_ (fun w hb => C1.out w (T4.call hb).below) ?_); (· intro w; simp [go_sem] <;> rfl))
      | ((refine lw_call rfl 43 #[.agg (mcA ⟨m.k, m.f, m.t, m.d, .slice A nl c, m.n, m.a⟩)] _ rfl ?_ (fun w hb => C2.out w (T4.call hb).below) ?_); (· intro w; simp [go_sem] <;> rfl))
      | ((refine lw_call rfl 46 #[.agg (mcA ⟨x.k, x.f, x.t, x.d, .slice A8 nx c8, x.n, x.a⟩), .agg (mcA ⟨x.k, x.f, x.t, x.d, .slice A9 nx c9, x.n, x.a⟩)] _ rfl ?_ (fun w hb => C5.out w hb) ?_); (· intro w; simp [go_sem] <;> rfl))
      | ((refine lw_call_rel rfl 44 #[.agg (mcA ⟨m.k, m.f, m.t, m.d, .slice A nl c, m.n, m.a⟩)] _ _ rfl ?_ (fun w hb => gives_rel (C3.out w (T4.call hb).below)) ?_); (· intro w; simp [go_sem] <;> rfl); intro z)
      | ((refine lw_call_rel rfl 45 #[.agg (mcA ⟨m.k, m.f, m.t, m.d, .slice A nl c, m.n, m.a⟩)] _ _ rfl ?_ (fun w hb => gives_rel (C4.out w (T4.call hb).below)) ?_); (· intro w; simp [go_sem] <;> rfl); intro z)
      | ((refine lw_call rfl 39 #[] _ rfl ?_ (fun w _ => works20 w) ?_); (· intro w; simp [go_sem] <;> rfl))
      | ((refine lw_bin rfl _ _ _ _ _ rfl _ _ rfl rfl _ rfl ?_ ?_); (· intro ρ w h1 h2; simp [execOp, h1, h2, go_sem]))
    simp only [Act.put, List.setIfInBounds_toArray, List.set_cons_succ, List.set_cons_zero]
  intro w8 hb8
  have T8 := T4.call hb8
  go_wp2_with fail
  go_ret
  exact ⟨rfl, T8.below⟩
end Go.Proofs.Ytolfnilickfneaa
