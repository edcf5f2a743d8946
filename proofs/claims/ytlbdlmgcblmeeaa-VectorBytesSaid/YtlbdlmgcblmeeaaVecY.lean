/-
  The walk of VectorBytes.
-/
import Derived.Test.YtlbdlmgcblmeeaaVecT
import Derived.Test.YtlbdlmgcblmeeaaBytR
import Derived.Test.YtlbdlmgcblmeeaaLzV
namespace Go.Proofs.Ytlbdlmgcblmeeaa
open Go.RowKit

theorem vofP_vec (v : Vec) (hv : v.ok) : vofP (vecL v) = if vmayB v = true then (v, 0) else (Vec.zero, 5) := by
  unfold vofP; rw [ofL_vecL v hv, vecL_length]; simp
theorem vofP_back (l : List Int) (hl : ∀ c ∈ l, 0 ≤ c ∧ c ≤ 255) : ((vofP l).2 = 5) ∨ ((vofP l).2 = 0 ∧ vecL (vofP l).1 = l ∧ (vofP l).1.ok) := by
  unfold vofP
  split
  · rename_i h
    exact .inr ⟨rfl, vecL_ofL l h.1 hl, ofL_ok l hl⟩
  · exact .inl rfl

set_option maxHeartbeats 4000000 in
set_option maxRecDepth 100000 in
theorem bytes_law (v : Vec) (hv : v.ok) (A : Option Addr) (cap : Nat) (l : List Int) (w : World)
    (hL : BRows w w.heap.size A l) (hcap : l.length ≤ cap) (hmax : cap ≤ maxLen) (hby : ∀ c ∈ l, 0 ≤ c ∧ c ≤ 255) :
    Calls Try.prog 7 #[.agg (vecA v), .slice A l.length cap] w fun e w' => e = .returned (.bool true) ∧ Below w.heap.size w w' := by
  have hm1 : cap ≤ 9223372036854775807 := hmax
  by_cases hn : 300 < l.length
  · go_enter Try.func7, Try.ntmps7
    go_wp2_with (go_at_call 8; (refine (works06 _).mono ?_); rintro e w1 ⟨rfl, hb⟩)
    go_ret
    exact ⟨rfl, ((Below.refl _ _).alloc (Nat.le_refl _) _).trans (hb.mono (by simp))⟩
  have c1 := vbytes v hv
  have c2 := fun W (hb : Below w.heap.size w W) => vof A cap l w.heap.size W (hL.below hb) hb.size hcap hmax hby
  have c3 := fun W (hb : Below w.heap.size w W) => rof A cap l w.heap.size W (hL.below hb) hb.size hcap hmax hby
  have c4 := fun A5 c5 B5 W h1 h2 h3 h4 => vof A5 c5 (vecL v) B5 W h1 h2 h3 h4 (vecL_range v)
  have c5 := rbytes v hv
  obtain ⟨mb, hmb⟩ : ∃ t, vmayB v = t := ⟨_, rfl⟩
  have c6 := rmay v mb hmb
  rw [vofP_vec v hv, hmb] at c4
  have hback := vofP_back l hby
  obtain ⟨X, y, hXy⟩ : ∃ X y, vofP l = (X, y) := ⟨_, _, rfl⟩
  rw [hXy] at c2 c3 hback
  simp only at hback
  have hlist : BytesIs l (.slice A l.length cap) w := ⟨A, cap, rfl, hcap, hmax, hL⟩
  have hX := fun (h : X.ok) => vbytes X h
  have C1 := Lib.hid c1
  have C2 := Lib.hid c2
  have C3 := Lib.hid c3
  have C4 := Lib.hid c4
  have C5 := Lib.hid c5
  have C6 := Lib.hid c6
  have HB := Lib.hid hback
  have HX := Lib.hid hX
  have HL := Lib.hid hlist
  clear c1 c2 c3 c4 c5 c6 hmb hXy hback hby hv hX hL hlist
  go_enter Try.func7, Try.ntmps7
  go_wp2_with fail
  have T0 : Trk w _ _ := (Trk.nil w).push (t := 25) (cs := vecA v) rfl
  refine (C1.out _).mono ?_
  rintro e w1 ⟨u1, rfl, hown, hb1⟩
  have T1 := T0.call hb1
  obtain ⟨A5, c5, rfl, hc5, hm5, hR5⟩ := own_open hown
  have hV := rd_brows hR5
  clear hown
  have hS : BytesIs (vecL v) (.slice A5 48 c5) w1 := ⟨A5, c5, rfl, hc5, hm5, hV⟩
  have HV := Lib.hid hV
  have HS := Lib.hid hS
  clear hV hS hR5 hb1
  go_wp2_with fail
  refine (C2.out _ T1.below).mono ?_
  rintro e w2 ⟨rfl, hb2⟩
  have T2 := (T1.call hb2).push (t := 25) (cs := vecA X) rfl
  have N2 := hb2.alloc hb2.size (.cells (vecA X) 25)
  go_wp2_with fail
  refine (C3.out _ T2.below).mono ?_
  rintro e w3 ⟨rfl, hb3⟩
  have T3 := (T2.call hb3).push (t := 25) (cs := vecA X) rfl
  have N3 := (N2.trans (hb3.mono N2.size)).alloc (Nat.le_trans N2.size hb3.size) (.cells (vecA X) 25)
  clear hb2 hb3 T2 N2 T1 T0
  obtain ⟨Z, g, hZ, hg, hgz⟩ : ∃ (Z : Vec) (g : Int), (if mb = true then (v, (0 : Int)) else (Vec.zero, 5)) = (Z, g) ∧ (g == 0) = mb ∧ (mb = true → Z = v) := by
    cases mb
    · exact ⟨_, _, rfl, rfl, fun h => by cases h⟩
    · exact ⟨_, _, rfl, rfl, fun _ => rfl⟩
  have C4' := C4.out A5 c5 w1.heap.size _ (HV.out.below N3) N3.size hc5 hm5
  rw [hZ] at C4'
  have C7 := Lib.hid C4'
  have HG := Lib.hid hg
  have HGZ := Lib.hid hgz
  clear C4' C4 hZ hg hgz
  go_wp2_with fail
  refine C7.out.mono ?_
  clear C7
  rintro e w4 ⟨rfl, hb4⟩
  have T4 := (T3.call hb4).push (t := 25) (cs := vecA Z) rfl
  have N4 := (N3.trans (hb4.mono N3.size)).alloc (Nat.le_trans N3.size hb4.size) (.cells (vecA Z) 25)
  have S4 := HS.out.keep _ _ _ _ N4
  clear T3 N3 hb4
  go_wp2_with fail
  generalize w4.alloc (.cells (vecA Z) 25) = W4 at T4 N4 S4 ⊢
  have e7 : (Vec.zero : Vec) = Vec.zero := rfl
  rcases (show mb = false ∨ mb = true from by cases mb <;> simp) with rfl | rfl
  case' inr => have hzv := (HGZ.out rfl).symm; subst hzv
  all_goals
    have hg := HG.out
    refine lw_region [.is (.slice A5 48 c5), .is (.string (strOfNums (vecL v))), .is (.agg (vecA v)), .bytes (vecL v), .is (.string (strOfNums (vecL v))), .is (.bool false), .is (.bool false),
      .is (.agg (vecA X)), .is (.agg (vecA X)), .is (.bool false), .is (.bool false), .is (.bool false), .is (.int .i64 y), .is (.int .i64 y), .is (.bool false), .is (.bool false), .is (.bool false),
      .is (.int .i64 g), .is (.bool (g == 0)), .is (.agg (vecA v)), .is (.bool (g == 0)), .is (.bool false), .is (.bool false), .is (.bool false), .is (.int .i64 g), .is (.bool (g == 0)), .is (.bool (g == 0)),
      .is (.agg (vecA v)), .is (.agg (vecA v)), .is (.bool false), .is (.bool false), .is (.bool false)] (by kernel_rfl) (by kernel_rfl) ?_
    rw [hg]
    repeat
      first
        | refine lw_skip rfl ?_
        | refine lw_loadv T4 rfl _ rfl _ _ rfl rfl (by simp) ?_
        | refine lw_move rfl _ rfl _ rfl rfl ?_
        | refine lw_pickF rfl _ _ _ rfl rfl _ rfl rfl ?_
        | refine lw_pickT rfl _ _ _ rfl rfl _ rfl rfl ?_
        | refine lw_neqv rfl _ _ _ rfl _ rfl rfl rfl ?_
        | refine lw_conv rfl _ rfl _ rfl _ S4 rfl ?_
        | refine lw_convR rfl _ rfl 3 _ rfl (by rfl) (by repeat (first | exact Or.inl ⟨rfl, rfl⟩ | apply Or.inr)) _ rfl rfl ?_
        | ((refine lw_call_rel rfl 28 #[.agg (vecA v)] _ _ rfl ?_ (fun w _ => gives_rel (C5.out w)) ?_); (· intro w; simp [go_sem] <;> rfl); intro z)
        | ((refine lw_call rfl 19 #[.agg (vecA v)] _ rfl ?_ (fun w _ => C6.out w) ?_); (· intro w; simp [go_sem] <;> rfl))
        | ((refine lw_bin rfl _ _ _ _ _ rfl _ _ rfl rfl _ rfl ?_ ?_); (· intro ρ w h1 h2; simp [execOp, h1, h2, go_sem, hg]))
      simp only [Act.put, List.setIfInBounds_toArray, List.set_cons_succ, List.set_cons_zero]
    intro w5 hb5
    have T5 := T4.call hb5
    have hw5 := T5.below
    clear hb5 hg
    have hlist := HL.out.keep _ _ _ _ hw5
    rcases HB.out with rfl | ⟨rfl, hXl, hXo⟩
    · go_wp2_with fail
      refine lw_region [.is (.int .i64 5), .is (.bool true), .is (.bool true), .is (.bool true), .is (.bool true), .is (.bool true), .is (.bool true), .is (.bool true), .is (.bool true), .is (.bool true), .is (.bool true), .is (.bool true), .is (.bool true), .is (.bool true)] (by kernel_rfl) (by kernel_rfl) ?_
      repeat
        first
          | refine lw_skip rfl ?_
          | refine lw_move rfl _ rfl _ rfl rfl ?_
          | refine lw_assign rfl _ rfl _ rfl rfl ?_
          | refine lw_pickT rfl _ _ _ rfl rfl _ rfl rfl ?_
          | ((refine lw_call rfl 8 #[] _ rfl ?_ (fun w _ => works06 w) ?_); (· intro w; simp [go_sem] <;> rfl))
          | ((refine lw_bin rfl _ _ _ _ _ rfl _ _ rfl rfl _ rfl ?_ ?_); (· intro ρ w h1 h2; simp [execOp, h1, h2, go_sem]))
        simp only [Act.put, List.setIfInBounds_toArray, List.set_cons_succ, List.set_cons_zero]
      intro w6 hb6
      go_wp2_with fail
      go_ret
      exact ⟨rfl, hw5.trans (hb6.mono hw5.size)⟩
    · have c8 := HX.out hXo
      rw [hXl] at c8
      go_wp2_with fail
      refine lw_region [.is (.int .i64 0), .is (.bool false), .is (.bool false), .is (.agg (vecA X)), .bytes l, .is (.string (strOfNums l)), .is (.slice A l.length cap), .is (.string (strOfNums l)), .is (.bool true), .is (.bool true), .is (.bool true), .is (.bool true), .is (.bool true), .is (.bool true)] (by kernel_rfl) (by kernel_rfl) ?_
      repeat
        first
          | refine lw_skip rfl ?_
          | refine lw_loadv T5 rfl _ rfl _ _ rfl rfl (by simp) ?_
          | refine lw_move rfl _ rfl _ rfl rfl ?_
          | refine lw_assign rfl _ rfl _ rfl rfl ?_
          | refine lw_pickT rfl _ _ _ rfl rfl _ rfl rfl ?_
          | refine lw_pickF rfl _ _ _ rfl rfl _ rfl rfl ?_
          | refine lw_conv rfl _ rfl _ rfl _ hlist rfl ?_
          | refine lw_convR rfl _ rfl 4 _ rfl (by rfl) (by repeat (first | exact Or.inl ⟨rfl, rfl⟩ | apply Or.inr)) _ rfl rfl ?_
          | ((refine lw_call_rel rfl 25 #[.agg (vecA X)] _ _ rfl ?_ (fun w _ => gives_rel (c8 w)) ?_); (· intro w; simp [go_sem] <;> rfl); intro z)
          | ((refine lw_call rfl 8 #[] _ rfl ?_ (fun w _ => works06 w) ?_); (· intro w; simp [go_sem] <;> rfl))
          | ((refine lw_bin rfl _ _ _ _ _ rfl _ _ rfl rfl _ rfl ?_ ?_); (· intro ρ w h1 h2; simp [execOp, h1, h2, go_sem]))
        simp only [Act.put, List.setIfInBounds_toArray, List.set_cons_succ, List.set_cons_zero]
      intro w6 hb6
      go_wp2_with fail
      go_ret
      exact ⟨rfl, hw5.trans (hb6.mono hw5.size)⟩
end Go.Proofs.Ytlbdlmgcblmeeaa
