/-
  Slices of bytes in a walk: append, and vectors as bytes (package vector: Bytes, Of).
-/
import Derived.Test.YtnhjphmcdamoaaaGO
import Derived.Test.YtnhjphmcdamoaaaGA
import Derived.Laws.BitsAllLaws
import Derived.Outline
namespace Go.Proofs.Ytnhjphmcdamoaaa
set_option linter.unusedVariables false
set_option linter.unusedSimpArgs false
open Go.RowKit

theorem infoU8 : (Try.prog.info? 5).map (fun i => (i.zero, i.size, i.bytes)) = some (some (.int .u8 0), 1, 1) := by kernel_rfl
theorem append_u8s {ops : Array Oper} {rest : List Oper} {o : Oper} {a : Act} {Q : Exit → Act → World → Prop} (w : World) (hgd : o.guard = none) (s x : Operand)
    (ho : o.op = .call { callee := .builtin .append, args := #[s, x], argTypes := #[40, 40] })
    (base : Nat) (v : Value) (L M : List Int) (hs : a.eval s = v) (hown : w.ownsRow base 5 1 v L.length (bcells L)) (A : Option Addr) (c B : Nat) (hx : a.eval x = .slice A M.length c) (hM : BRows w B A M)
    (hn : L.length + M.length ≤ 1000000000) (hbase : base ≤ w.heap.size)
    (h : ∀ v' w', w'.ownsRow base 5 1 v' (L ++ M).length (bcells (L ++ M)) → Below base w w' → wpList Try.prog ops Q rest (a.put o.dst v') w') : wpList Try.prog ops Q (o :: rest) a w := by
  obtain ⟨i0, hi0, hz0, hz1, hz2⟩ := info_parts infoU8
  refine wpList_append_rd w hgd s x 40 ho base 5 i0 (.int .u8 0) 1 1 Try.underlying40 hi0 hz0 hz1 hz2 rfl (by decide) v L.length (bcells L) hs hown B A M.length c (bcells M) hx (brows_rd hM) ?_ ?_ ?_ hbase ?_
  · intro y hy
    unfold bcells at hy
    obtain ⟨v, _, rfl⟩ := List.mem_map.1 hy
    rfl
  · unfold maxLen; omega
  · omega
  · intro v' w' hown' hb
    refine h v' w' ?_ hb
    rw [bcells_append, List.length_append]
    exact hown'
/-- One byte. -/
theorem append_u8 {ops : Array Oper} {rest : List Oper} {o : Oper} {a : Act} {Q : Exit → Act → World → Prop} (w : World) (hgd : o.guard = none) (s x : Operand)
    (ho : o.op = .call { callee := .builtin .append, args := #[s, x], argTypes := #[40, 40] })
    (base : Nat) (v : Value) (L : List Int) (y : Int) (hs : a.eval s = v) (hown : w.ownsRow base 5 1 v L.length (bcells L)) (g : Nat) (hx : a.eval x = .slice (some ⟨g, 0, none⟩) 1 1) (hM : Blk w g 5 #[.int .u8 y])
    (hn : L.length + 1 ≤ 1000000000) (hbase : base ≤ w.heap.size)
    (h : ∀ v' w', w'.ownsRow base 5 1 v' (L ++ [y]).length (bcells (L ++ [y])) → Below base w w' → wpList Try.prog ops Q rest (a.put o.dst v') w') : wpList Try.prog ops Q (o :: rest) a w :=
  append_u8s w hgd s x ho base v L [y] hs hown _ 1 (g + 1) hx (fun _ => ⟨g, 0, rfl, by omega, fun i x hi => by
    rw [hM.cell]
    match i, hi with
    | 0, hi => simp at hi; subst hi; rfl⟩) hn hbase h

/-- A slice of bytes, new, is answered. -/
def GivesB (l : List Int) (w : World) (e : Ending) (w' : World) : Prop := ∃ u, e = .returned u ∧ w'.ownsRow w.heap.size 5 1 u l.length (bcells l) ∧ Below w.heap.size w w'

theorem or_byte (x y : Int) (h0 : 0 ≤ y) (h1 : y < 256) : bits .or .u64 (x * 256 % 18446744073709551616) y = x * 256 % 18446744073709551616 + y := by
  rw [u64_or _ _ (by omega) (by omega) h0 (by omega), nat_join 8 _ _ (by omega) (by omega)]
  omega
theorem or_rot (x : Int) (h0 : 0 ≤ x) (h1 : x ≤ 18446744073709551615) : bits .or .u64 (x * 256 % 18446744073709551616) (x / 72057594037927936) = rot8 x :=
  or_byte x _ (by omega) (by omega)
theorem rotl_any (x : Int) (h0 : 0 ≤ x) (h1 : x ≤ 18446744073709551615) (w : World) :
    Calls Try.prog 57 #[.int .u64 x, .int .i64 8] w fun e w' => e = .returned (.int .u64 (rot8 x)) ∧ w = w' := by
  have ha : bits .and .u64 8 63 = 8 := by kernel_rfl
  go_enter Try.func57, Try.ntmps57
  go_wp2
  go_ret
  refine ⟨ret_int ?_, rfl⟩
  exact or_rot x h0 h1

set_option maxHeartbeats 400000 in
theorem vbytes (v : Vec) (hv : v.ok) (w : World) : Calls Try.prog 27 #[.agg (vecA v)] w (GivesB (vecL v) w) := by
  have hmk : ∀ W : World, (Instr.makeSlice 40 (.int .i64 0) (.int .i64 48)).run Try.prog W = .ok (.slice (some ⟨W.heap.size, 0, none⟩) 0 48) (W.alloc (.cells (Array.replicate 48 (.int .u8 0)) 5)) := fun W => by kernel_rfl
  go_enter Try.func27, Try.ntmps27
  go_wp2_with fail
  go_loopw [3, 8] (fun o i wr => ∃ k : Nat, k ≤ 6 ∧ i = .int .i64 k ∧ wr.ownsRow w.heap.size 5 1 o ((vecL v).take (8 * k)).length (bcells ((vecL v).take (8 * k))) ∧ Below w.heap.size w wr) (fun _ i _ => 6 - (intOf i).toNat)
  case atStart => exact ⟨0, by omega, rfl, by simpa [bcells] using World.ownsRow_made (base := w.heap.size) (size := 1) (e := 5) (w.alloc (.cells (vecA v) 24)) (Array.replicate 48 (.int .u8 0)) 48 (by simp) (by decide) (by simp), by go_grown⟩
  case round =>
    obtain ⟨k, hk, rfl, hown, hb⟩ := hrel
    by_cases hlt : k < 6
    · obtain ⟨n0, n1⟩ := hv k hlt
      have ga := run_index_vec v k hlt
      have hkd : decide ((k : Int) < 6) = true := by simp; omega
      have HT := Lib.hid (vecL_take v k hlt)
      have HZ := Lib.hid (rotN_zero (v.get k) n0 n1)
      generalize v.get k = n at ga HT HZ n0 n1
      go_wp2_with fail
      go_loopw [3, 5, 11] (fun o x i w2 => ∃ j : Nat, j ≤ 8 ∧ i = .int .i64 j ∧ x = .int .u64 (rotN n j) ∧ w2.ownsRow w.heap.size 5 1 o ((vecL v).take (8 * k + j)).length (bcells ((vecL v).take (8 * k + j))) ∧ Below w.heap.size w w2) (fun _ _ i _ => 8 - (intOf i).toNat)
      case atStart => exact ⟨0, by omega, rfl, by rw [HZ.out], hown, hb⟩
      case round =>
        obtain ⟨j, hj, rfl, rfl, hown2, hb2⟩ := hrel
        clear hown hb
        by_cases hj8 : j < 8
        · obtain ⟨r0, r1⟩ := rotN_range n j
          have hS := Lib.hid (rotN_succ n j hj8)
          have hB := Lib.hid (rotN_byte n j hj8)
          have hW := Lib.hid (wordL_take n j hj8)
          have hsz := hb2.size
          have c1 := rotl_any (rotN n j) r0 r1
          rw [hS.out] at c1
          obtain ⟨s0, s1⟩ := rotN_range n (j + 1)
          generalize hx : rotN n (j + 1) = x at c1 hB hS s0 s1
          have HX := Lib.hid hx
          have C1 := Lib.hid c1
          have hlen : ((vecL v).take (8 * k + j)).length ≤ 48 := by rw [List.length_take, vecL_length]; omega
          generalize hl : (vecL v).take (8 * k + j) = l at hown2 hlen
          have HL := Lib.hid hl
          clear c1 hl hx
          go_wp2_with (first
            | (go_at_call 57; (with_reducible refine (C1.out _).mono ?_); rintro e w3 ⟨rfl, rfl⟩)
            | (at_builtin; refine append_u8 _ rfl (.tmp 15) (.tmp 18) rfl w.heap.size _ l _ rfl (hown2.alloc _) wr.heap.size rfl (Blk.new _ _ _) (by omega) (by simp; omega) ?_; intro v' w' hown' hb'))
          go_roundw
          case rel =>
            have e : (vecL v).take (8 * k + (j + 1)) = l ++ [x % 256] := by
              rw [HT.out (j + 1) (by omega), hW.out, ← List.append_assoc, ← HT.out j (by omega), HL.out, hB.out]
            refine ⟨j + 1, by omega, by go_num, by rw [HX.out], ?_, (hb2.alloc hsz _).trans hb'⟩
            rw [e]; exact hown'
          case measure => simp [intOf]; omega
        · obtain rfl : j = 8 := by omega
          go_wp2_with fail
          go_roundw
          case rel => exact ⟨k + 1, by omega, by go_num, by rw [Nat.mul_succ]; exact hown2, hb2⟩
          case measure => simp [intOf]; omega
    · obtain rfl : k = 6 := by omega
      rw [List.take_of_length_le (by rw [vecL_length]; decide)] at hown
      go_wp2_with fail
      go_ret
      exact ⟨_, rfl, hown, hb⟩

theorem ofC_any (bb b o cap : Nat) (l : List Int) (hl : l.length = 48) (hc1 : 48 ≤ cap) (hc2 : cap ≤ maxLen) (hby : ∀ c ∈ l, 0 ≤ c ∧ c ≤ 255) (k : Nat) (hk : k < 6) (w : World)
    (h1 : w.cell? ⟨bb, 0, none⟩ = some (.slice (some ⟨b, o, none⟩) 48 cap)) (hc : ∀ i x, l[i]? = some x → w.cell? ⟨b, o + i, none⟩ = some (.int .u8 x)) :
    Calls Try.prog 58 #[.int .i64 k, .pointer (some ⟨bb, 0, none⟩)] w fun e w' => e = .returned (.int .u64 ((ofL l).get k)) ∧ w = w' := by
  unfold maxLen at hc2
  have hkk : (k : Int) * 8 = ((8 * k : Nat) : Int) := by omega
  have hne : ¬ cap = 8 * k := by omega
  have hof : (ofL l).get k = numL ((l.drop (8 * k)).take 8) := by rw [ofL, Vec.get_ofFn _ k hk]
  have HO := Lib.hid hof
  have HC := Lib.hid hc
  clear hof hc
  obtain ⟨m, hm⟩ : ∃ m, m = 8 * k := ⟨_, rfl⟩
  rw [← hm] at hkk hne
  have hm1 : m ≤ 40 := by omega
  have HM := Lib.hid hm
  clear hm
  go_enter Try.func58, Try.ntmps58
  go_wp2_with fail
  go_loop [3, 12] (fun n i => ∃ j : Nat, j ≤ 8 ∧ i = .int .i64 j ∧ n = .int .u64 (numL ((l.drop m).take j))) (fun _ i => 8 - (intOf i).toNat)
  case atStart => exact ⟨0, by omega, rfl, rfl⟩
  case round =>
    obtain ⟨j, hj, rfl, rfl⟩ := hrel
    by_cases hlt : j < 8
    · obtain ⟨x, hx⟩ : ∃ x, l[m + j]? = some x := ⟨l[m + j]'(by omega), List.getElem?_eq_getElem (by omega)⟩
      have hcell := HC.out _ x hx
      rw [← Nat.add_assoc] at hcell
      obtain ⟨x0, x1⟩ := hby x (List.mem_of_getElem? hx)
      have hnum := Lib.hid (numL_take (l.drop m) j x (by rw [List.getElem?_drop]; exact hx))
      have hor := or_byte (numL ((l.drop m).take j)) x x0 (by omega)
      generalize numL ((l.drop m).take j) = n at hnum hor
      have hwr : IntKind.u64.wrap (n * 256) = n * 256 % 18446744073709551616 := IntKind.wrap_u64 _
      clear hx
      go_wp2
      go_round
      case rel => exact ⟨j + 1, by omega, by go_num, by rw [hnum.out]⟩
      case measure => simp [intOf]; omega
    · obtain rfl : j = 8 := by omega
      go_wp2
      go_ret
      exact ⟨ret_int (by rw [HO.out, HM.out]), rfl⟩

theorem below_set6 {B : Nat} {a w : World} (h : Below B a w) {d : Nat} (hd : B ≤ d) (x0 x1 x2 x3 x4 x5 : Value) :
    Below B a ((((((w.setCell ⟨d, 0, none⟩ x0).setCell ⟨d, 1, none⟩ x1).setCell ⟨d, 2, none⟩ x2).setCell ⟨d, 3, none⟩ x3).setCell ⟨d, 4, none⟩ x4).setCell ⟨d, 5, none⟩ x5) :=
  (((((h.setCell (p := ⟨d, 0, none⟩) hd _).setCell (p := ⟨d, 1, none⟩) hd _).setCell (p := ⟨d, 2, none⟩) hd _).setCell (p := ⟨d, 3, none⟩) hd _).setCell (p := ⟨d, 4, none⟩) hd _).setCell (p := ⟨d, 5, none⟩) hd _
/-- The vector that may be whose bytes these are; else an error. -/
def vofP (l : List Int) : Vec × Int := if l.length = 48 ∧ vmayB (ofL l) = true then (ofL l, 0) else (Vec.zero, 5)
set_option maxHeartbeats 400000 in
theorem vof (A : Option Addr) (cap : Nat) (l : List Int) (B : Nat) (w : World) (hL : BRows w B A l) (hB : B ≤ w.heap.size) (hn : l.length ≤ cap) (hcap : cap ≤ maxLen) (hby : ∀ c ∈ l, 0 ≤ c ∧ c ≤ 255) :
    Calls Try.prog 28 #[.slice A l.length cap] w fun e w' => e = .returned (.tuple #[.agg (vecA (vofP l).1), .int .i64 (vofP l).2]) ∧ Below w.heap.size w w' := by
  have hm1 : cap ≤ 9223372036854775807 := hcap
  by_cases h48 : l.length = 48
  · obtain ⟨b, o, rfl, hlt, hc⟩ := hL (by rintro rfl; simp at h48)
    have hF : ∀ W g, Below w.heap.size w W → W.cell? ⟨g, 0, none⟩ = some (.slice (some ⟨b, o, none⟩) 48 cap) → g < W.heap.size →
        Gives 58 [.pointer (some ⟨g, 0, none⟩)] (ofL l) W := fun W g hW hg hgl k hk w1 hb1 =>
      (ofC_any g b o cap l h48 (by omega) hcap hby k hk w1 ((hb1.cell (p := ⟨g, 0, none⟩) hgl).trans hg) fun i x hx =>
        ((hW.trans (hb1.mono hW.size)).cell (p := ⟨b, _, none⟩) (by show b < _; omega)).trans (hc i x hx)).mono fun e w' ⟨h1, h2⟩ => ⟨h1, by subst h2; exact Below.refl _ _⟩
    have c1 := vmay (ofL l)
    have hP : vofP l = if vmayB (ofL l) = true then (ofL l, 0) else (Vec.zero, 5) := by unfold vofP; rw [h48]; simp
    have HF := Lib.hid hF
    have HP := Lib.hid hP
    generalize vmayB (ofL l) = mb at c1 HP
    generalize ofL l = u at c1 HP HF
    have C1 := Lib.hid c1
    rw [h48]
    clear hF hP c1 hc hL h48 hby
    rcases (show mb = false ∨ mb = true from by cases mb <;> simp) with rfl | rfl
    all_goals
      go_enter Try.func28, Try.ntmps28
      go_wp2_with fail
      have T0 : Trk w _ _ := ((Trk.nil w).push (t := 40) (cs := #[.slice (some ⟨b, o, none⟩) 48 cap]) rfl).push (t := 24) (cs := vecA Vec.zero) (g := w.heap.size + 1) (by simp)
      obtain ⟨q1, -, q0, -, -⟩ := T0.rules
      obtain ⟨l1, l0, -⟩ := T0.lts
      refine (each_any _ _ u _ (HF.out _ _ T0.below (q0 0) l0) (Or.inr (Or.inr rfl))).mono ?_
      rintro e w1 ⟨rfl, hb1⟩
      have T1 := T0.call hb1
      clear q1 q0
      obtain ⟨q1, f1, q0, -, -⟩ := T1.rules
      go_wp2_with fail
      have hs := T1.lt
      have B1 := (T1.blk _ _ _ List.mem_cons_self).setVec u
      have hb2 : Below w.heap.size w _ := below_setVec (d := w.heap.size + 1) T1.below (by omega) u
      generalize hw2 : (((((w1.setCell _ _).setCell _ _).setCell _ _).setCell _ _).setCell _ _).setCell _ _ = w2 at B1 hb2 ⊢
      clear hw2
      (refine (C1.out _).mono ?_)
      rintro e w3 ⟨rfl, hb3⟩
      have B3 := B1.below hb3 B1.lt
      have hb4 := hb2.trans (hb3.mono hb2.size)
      obtain ⟨s1, t1⟩ := B3.rules
      clear q0 q1 f1
      go_wp2_with fail
      refine bodyPost_ret (v := .tuple #[.agg (vecA (vofP l).1), .int .i64 (vofP l).2]) (by rw [HP.out]; simp [results, Try.results28, go_sem, s1]) rfl ⟨rfl, ?_⟩
      clear C1 HF HP T0 T1
      exact below_set6 hb4 (by omega) _ _ _ _ _ _
  · have hP : vofP l = (Vec.zero, 5) := by unfold vofP; rw [if_neg (by simp [h48])]
    have HP := Lib.hid hP
    have hne : ((l.length : Int) == 48) = false := by rw [beq_eq_false_iff_ne]; omega
    have hne2 : ((l.length : Int) != 48) = true := by rw [bne, hne]; rfl
    clear hP h48
    go_enter Try.func28, Try.ntmps28
    go_wp2_with fail
    go_returns
    refine ⟨by rw [HP.out], ?_⟩
    go_grown
end Go.Proofs.Ytnhjphmcdamoaaa
