/-
  The walk of VectorPlays.
-/
import Derived.Test.YtlbdlmgcblmeeaaVecS
namespace Go.Proofs.Ytlbdlmgcblmeeaa
open Go.RowKit

theorem join_all {L : List Vec} (h : ∀ u ∈ L, u.ok) : L.foldl (Vec.map2 max) Vec.zero = Vec.foldV max L := by
  cases L with
  | nil => rfl
  | cons v L =>
    have : Vec.map2 max Vec.zero v = v := Vec.ext_get fun k hk => by
      rw [Vec.get_max _ _ k hk, Vec.get_zero]
      have := (h v List.mem_cons_self k hk).1
      omega
    simp only [List.foldl_cons, this]; rfl
theorem rnext' (v : Vec) (hv : v.ok) (o x y : Int) (h : vnext v o = (x, y)) (w : World) :
    Calls Try.prog 16 #[.agg (vecA v), .int .i64 o] w fun e w' => e = .returned (.tuple #[.int .u64 x, .int .i64 y]) ∧ Below w.heap.size w w' := by
  have c := rnext_any v hv o w
  rw [h] at c; exact c
theorem rwith' (v : Vec) (o s : Int) (x : Vec) (y : Int) (h : vwith v o s = (x, y)) (w : World) :
    Calls Try.prog 18 #[.agg (vecA v), .int .i64 o, .int .u64 s] w fun e w' => e = .returned (.tuple #[.agg (vecA x), .int .i64 y]) ∧ Below w.heap.size w w' := by
  have c := rwith_any v o s w
  rw [h] at c; exact c
@[go_sem] theorem run_bs0_vec (w : World) : (bs0 22).run Try.prog w = .ok (.value (.slice (some ⟨w.heap.size, 0, none⟩) 0 0)) (w.alloc (.cells #[] 25)) := by kernel_rfl
section
variable (ρ : Operand → Value) (dst : Option Tmp) (ty : TypeId) (pos : String) (after : Array Edge) (guard : Option (Nat × Bool))
@[go_sem ↓] theorem execOp_bs0_vec : execOp ρ { dst, op := .buildSlice 22 0 #[], type := ty, pos, after, guard } = bs0 22 := execOp_bs0 ..
end
theorem infoVec : (Try.prog.info? 25).map (fun i => (i.zero, i.size, i.bytes)) = some (some (.agg #[.int .u64 0, .int .u64 0, .int .u64 0, .int .u64 0, .int .u64 0, .int .u64 0]), 6, 48) := by kernel_rfl
theorem append_vecs {ops : Array Oper} {rest : List Oper} {o : Oper} {a : Act} {Q : Exit → Act → World → Prop} (w : World) (hgd : o.guard = none) (s x : Operand)
    (ho : o.op = .call { callee := .builtin .append, args := #[s, x], argTypes := #[22, 22] })
    (base : Nat) (v : Value) (L M : List Vec) (hs : a.eval s = v) (hown : w.ownsRow base 25 6 v L.length (vcells L)) (A : Option Addr) (c B : Nat) (hx : a.eval x = .slice A M.length c) (hM : VRows w B A M)
    (hn : L.length + M.length ≤ 1000000) (hbase : base ≤ w.heap.size)
    (h : ∀ v' w', w'.ownsRow base 25 6 v' (L ++ M).length (vcells (L ++ M)) → Below base w w' → wpList Try.prog ops Q rest (a.put o.dst v') w') : wpList Try.prog ops Q (o :: rest) a w := by
  obtain ⟨i0, hi0, hz0, hz1, hz2⟩ := info_parts infoVec
  refine wpList_append_rd w hgd s x 22 ho base 25 i0 (.agg #[.int .u64 0, .int .u64 0, .int .u64 0, .int .u64 0, .int .u64 0, .int .u64 0]) 6 48 Try.underlying22 hi0 hz0 hz1 hz2 rfl (by decide) v L.length (vcells L) hs hown B A M.length c (vcells M) hx (vrows_rd hM) ?_ ?_ ?_ hbase ?_
  · intro y hy
    unfold vcells at hy
    obtain ⟨v, _, hy⟩ := List.mem_flatMap.1 hy
    simp only [vecA_toList, List.mem_cons, List.mem_nil_iff, or_false] at hy
    rcases hy with rfl | rfl | rfl | rfl | rfl | rfl <;> rfl
  · unfold maxLen; omega
  · omega
  · intro v' w' hown' hb
    refine h v' w' ?_ hb
    have : vcells (L ++ M) = vcells L ++ vcells M := by simp [vcells]
    rw [this, List.length_append]
    exact hown'

set_option maxHeartbeats 4000000 in
set_option maxRecDepth 100000 in
theorem plays_law (a b : Vec) (A : Option Addr) (cap : Nat) (L : List Vec) (o s : Int) (w : World)
    (hL : VRows w w.heap.size A L) (hcap : L.length ≤ cap) (hmax : cap ≤ maxLen) (okL : ∀ u ∈ L, u.ok) (oa : a.ok) (ob : b.ok) :
    Calls Try.prog 5 #[.agg (vecA a), .agg (vecA b), .slice A L.length cap, .int .i64 o, .int .u64 s] w fun e w' => e = .returned (.bool true) ∧ Below w.heap.size w w' := by
  have hm1 : cap ≤ 9223372036854775807 := hmax
  by_cases hn : 50 < L.length
  · go_enter Try.func5, Try.ntmps5
    go_wp2_with (go_at_call 8; (refine (works06 _).mono ?_); rintro e w1 ⟨rfl, hb⟩)
    go_ret
    exact ⟨rfl, (((Below.refl _ _).alloc (Nat.le_refl _) _).alloc (by simp) _).trans (hb.mono (by simp; omega))⟩
  obtain ⟨x, y, hxy⟩ : ∃ x y, vnext a o = (x, y) := ⟨_, _, rfl⟩
  obtain ⟨U, z, hUz⟩ : ∃ x y, vwith a o s = (x, y) := ⟨_, _, rfl⟩
  have c1 := vnext' a oa o x y hxy
  have c2 := rnext' a oa o x y hxy
  have c3 := vwith' a o s U z hUz
  have c4 := rwith' a o s U z hUz
  obtain ⟨bm, hbm⟩ : ∃ t, vmayB a = t := ⟨_, rfl⟩
  obtain ⟨bl, hbl⟩ : ∃ t, vlessB a b = t := ⟨_, rfl⟩
  obtain ⟨bh, hbh⟩ : ∃ t, vhasB a o s = t := ⟨_, rfl⟩
  obtain ⟨nl, hnl⟩ : ∃ t, vlack a b = t := ⟨_, rfl⟩
  have c5 := vmay' a bm hbm
  have c6 := rmay a bm hbm
  have c7 := vless' a b bl hbl
  have c8 := rless a b bl hbl
  have c9 := vhas' a o s bh hbh
  have c10 := rhas a o s
  rw [hbh] at c10
  have c11 := vlack_any a b oa ob
  have c12 := rlack a b oa ob
  rw [hnl] at c11 c12
  have C1 := Lib.hid c1
  have C2 := Lib.hid c2
  have C3 := Lib.hid c3
  have C4 := Lib.hid c4
  have C5 := Lib.hid c5
  have C6 := Lib.hid c6
  have C7 := Lib.hid c7
  have C8 := Lib.hid c8
  have C9 := Lib.hid c9
  have C10 := Lib.hid c10
  have C11 := Lib.hid c11
  have C12 := Lib.hid c12
  have HJ := Lib.hid (join_all okL)
  clear c1 c2 c3 c4 c5 c6 c7 c8 c9 c10 c11 c12 hxy hUz hbm hbl hbh hnl okL oa ob
  go_enter Try.func5, Try.ntmps5
  go_wp2_with fail
  have T0 : Trk w _ _ := ((Trk.nil w).push (t := 25) (cs := vecA a) rfl).push (t := 25) (cs := vecA b) (g := w.heap.size + 1) (by simp)
  refine (Calls.trk (C1.out _) T0).mono ?_
  rintro e w1 ⟨rfl, T1, r0, -, r1, -, -⟩
  go_wp2_with fail
  refine (Calls.trk (C2.out _) T1).mono ?_
  rintro e w2 ⟨rfl, T2, r0, -, r1, -, -⟩
  go_wp2_with fail
  refine (Calls.trk (C3.out _) T2).mono ?_
  rintro e w3 ⟨rfl, T3', r0, -, r1, -, -⟩
  clear T1 T2
  have T3 := T3'.push (t := 25) (cs := vecA U) rfl
  obtain ⟨r2, -, r0, -, r1, -, -⟩ := T3.rules
  go_wp2_with fail
  refine (Calls.trk (C4.out _) T3).mono ?_
  rintro e w4 ⟨rfl, T4', -⟩
  have T4 := T4'.push (t := 25) (cs := vecA U) rfl
  clear T3 T3' r0 r1 r2
  go_wp2_with fail
  generalize w4.alloc (.cells (vecA U) 25) = W4 at T4 ⊢
  obtain ⟨q3, -, q2, -, q0, -, q1, -, -⟩ := T4.rules
  obtain ⟨l3, l2, l0, l1, -⟩ := T4.lts
  refine wp_region_later (by kernel_rfl) (by kernel_rfl) ?_



  repeat (go_big_quiet_step (first | (go_at_call 14; with_reducible exact Calls.later (C5.out _)) | (go_at_call 19; with_reducible exact Calls.later (C6.out _)) | (go_at_call 11; with_reducible exact Calls.later (C7.out _)) | (go_at_call 20; with_reducible exact Calls.later (C8.out _)) | (go_at_call 12; with_reducible exact Calls.later (C9.out _)) | (go_at_call 21; with_reducible exact Calls.later (C10.out _)) | (go_at_call 13; with_reducible exact Calls.later (C11.out _)) | (go_at_call 22; with_reducible exact Calls.later (C12.out _))))
  refine wpQuiet_nil ?_
  rintro w5 ⟨x, rfl⟩
  have T5 := T4.call x.below
  generalize x.w = w5 at T5
  clear x q0 q1 q2 q3 l0 l1 l2 l3 T4 T4' T0
  have hL5 := hL.below T5.below
  have hw5 := T5.below.size
  go_wp2_with (at_builtin; refine append_vecs _ rfl (.tmp 105) (.tmp 106) rfl w5.heap.size _ [] L rfl ?h1 A cap w.heap.size rfl ?h2 ?h3 ?h4 ?_; (case h1 => exact World.ownsRow_made w5 #[] 0 (Nat.le_refl _) (by decide) rfl); (case h2 => exact hL5.below ((Below.refl _ _).alloc hw5 _)); (case h3 => simp; omega); (case h4 => simp); intro v' w6 hown hb6)
  rw [List.nil_append] at hown
  obtain ⟨A5, c5, rfl, hc5, hm5, hR5⟩ := own_open hown
  have hV6 := rd_vrows hR5
  have hb56 : Below w.heap.size w w6 := T5.below.trans ((((Below.refl _ _).alloc (Nat.le_refl _) _).trans hb6).mono hw5)
  have hw6 := hb56.size
  have hL6 := hL.below hb56
  clear hown hb6 T5 hw5 hL5
  have e1 := fun W (hb : Below w6.heap.size w6 W) => join_any A5 c5 L w6.heap.size W (hV6.below hb) hb.size hc5 hm5
  have e2 := fun W (hb : Below w6.heap.size w6 W) => rall A cap L w.heap.size W (hL6.below (hb.mono hw6)) (Nat.le_trans hw6 hb.size) hcap hmax
  have e3 := fun W (hb : Below w6.heap.size w6 W) => meet_any A5 c5 L w6.heap.size W (hV6.below hb) hb.size hc5 hm5
  have e4 := fun W (hb : Below w6.heap.size w6 W) => rleast A cap L w.heap.size W (hL6.below (hb.mono hw6)) (Nat.le_trans hw6 hb.size) hcap hmax
  have e5 := fun W => join_any none 0 [] 0 W (fun h => absurd rfl h) (Nat.zero_le _) (Nat.le_refl _) (by decide)
  rw [HJ.out] at e2
  generalize Vec.foldV max L = J at e1 e2
  generalize Vec.foldV min L = M at e3 e4
  have E1 := Lib.hid e1
  have E2 := Lib.hid e2
  have E3 := Lib.hid e3
  have E4 := Lib.hid e4
  have E5 := Lib.hid e5
  clear e1 e2 e3 e4 e5 HJ
  have ez : vecA (Vec.foldV max []) = vecA Vec.zero := rfl
  go_wp2_with fail
  refine (E1.out _ (Below.refl _ _)).mono ?_
  rintro e w7 ⟨rfl, hb7⟩
  go_wp2_with fail
  refine (E2.out _ hb7).mono ?_
  rintro e w8 ⟨rfl, hb8'⟩
  have hb8 := hb7.trans (hb8'.mono hb7.size)
  go_wp2_with fail
  refine (E3.out _ hb8).mono ?_
  rintro e w9 ⟨rfl, hb9'⟩
  have hb9 := hb8.trans (hb9'.mono hb8.size)
  go_wp2_with fail
  refine (E4.out _ hb9).mono ?_
  rintro e w10 ⟨rfl, hb10'⟩
  have hb10 := hb9.trans (hb10'.mono hb9.size)
  go_wp2_with fail
  refine (E5.out _).mono ?_
  rintro e w11 ⟨rfl, hb11'⟩
  have hb11 := hb10.trans (hb11'.mono hb10.size)
  clear hb7 hb8 hb9 hb10 hb8' hb9' hb10' hb11' E1 E2 E3 E4 E5
  go_wp2_with fail
  have hV11 := (hV6.below hb11).mono hb11.size
  have hw11 : w.heap.size ≤ w11.heap.size := Nat.le_trans hw6 hb11.size
  have hb := hb56.trans (hb11.mono hw6)
  clear hV6 hb11 hb56 hL6
  go_loopw [20] (fun i wr => ∃ k : Nat, k ≤ L.length ∧ i = .int .i64 k ∧ Below w11.heap.size w11 wr) (fun i _ => L.length - (intOf i).toNat)
  case atStart => exact ⟨0, by omega, rfl, Below.refl _ _⟩
  case round =>
    obtain ⟨k, hk, rfl, hbr⟩ := hrel
    by_cases hlt : k < L.length
    · obtain ⟨b1, o1, rfl, hbw1, hc1⟩ := hL (by rintro rfl; simp at hlt)
      obtain ⟨b2, o2, rfl, hbw2, hc2⟩ := hV11 (by rintro rfl; simp at hlt)
      obtain ⟨u, hu⟩ : ∃ u, L[k]? = some u := ⟨L[k], List.getElem?_eq_getElem hlt⟩
      obtain ⟨y0, y1, y2, y3, y4, y5⟩ := (sixAt_of (hc1 k u hu)).below (hb.trans (hbr.mono hw11)) hbw1
      obtain ⟨z0, z1, z2, z3, z4, z5⟩ := (sixAt_of (hc2 k u hu)).below hbr hbw2
      have i1 : (0 : Int) ≤ (k : Int) := by omega
      have i2 : (k : Int) < (L.length : Int) := by omega
      have Hc1 := Lib.hid hc1
      have Hc2 := Lib.hid hc2
      clear hc1 hc2 hu hL hV11
      go_wp2_with fail
      go_quiet (fail)
      go_wp2_with fail
      go_roundw
      case rel => exact ⟨k + 1, by omega, by go_num, below_drewN hbr _⟩
      case measure => simp [intOf]; omega
    · obtain rfl : k = L.length := by omega
      go_wp2_with (go_at_call 8; (with_reducible refine (works06 _).mono ?_); rintro e w12 ⟨rfl, hb12⟩)
      go_ret
      exact ⟨rfl, hb.trans ((hbr.trans (hb12.mono hbr.size)).mono hw11)⟩
end Go.Proofs.Ytlbdlmgcblmeeaa
