/-
  The walks of package message: region, May; of the document's leatref20: region, May.
-/
import Derived.Test.YtnhjphmcdamoaaaGB
import Derived.Test.YtnhjphmcdamoaaaEw
import Derived.Test.YtnhjphmcdamoaaaEx
import Derived.Test.YtnhjphmcdamoaaaEs
import Derived.Test.YtnhjphmcdamoaaaGC
import Derived.Test.YtnhjphmcdamoaaaGD
import Derived.Test.YtnhjphmcdamoaaaVecS
import Derived.Test.YtnhjphmcdamoaaaGA
namespace Go.Proofs.Ytnhjphmcdamoaaa
set_option linter.unusedVariables false
set_option linter.unusedSimpArgs false
open Go.RowKit

theorem Trk.setMc {w0 w : World} {g : Nat} {t : TypeId} {O : Mc} {bs : List (Nat × TypeId × Array Value)} (h : Trk w0 w ((g, t, mcA O) :: bs)) (hB : w0.heap.size ≤ g) (hp : Nes g bs) (R : Mc) : Trk w0 ((((((((((((w.setCell ⟨g, 0, none⟩ (.int .u8 R.k)).setCell ⟨g, 1, none⟩ (.int .i64 R.f)).setCell ⟨g, 2, none⟩ (.int .i64 R.t)).setCell ⟨g, 3, none⟩ (.int .u64 R.d.v0)).setCell ⟨g, 4, none⟩ (.int .u64 R.d.v1)).setCell ⟨g, 5, none⟩ (.int .u64 R.d.v2)).setCell ⟨g, 6, none⟩ (.int .u64 R.d.v3)).setCell ⟨g, 7, none⟩ (.int .u64 R.d.v4)).setCell ⟨g, 8, none⟩ (.int .u64 R.d.v5)).setCell ⟨g, 9, none⟩ R.s).setCell ⟨g, 10, none⟩ (.int .u64 R.n)).setCell ⟨g, 11, none⟩ (.int .i64 R.a)) ((g, t, mcA R) :: bs) := by
  rw [← mcA_all O R]
  exact ((((((((((((h.set_ hB hp 0 (.int .u8 R.k)).set_ hB hp 1 (.int .i64 R.f)).set_ hB hp 2 (.int .i64 R.t)).set_ hB hp 3 (.int .u64 R.d.v0)).set_ hB hp 4 (.int .u64 R.d.v1)).set_ hB hp 5 (.int .u64 R.d.v2)).set_ hB hp 6 (.int .u64 R.d.v3)).set_ hB hp 7 (.int .u64 R.d.v4)).set_ hB hp 8 (.int .u64 R.d.v5)).set_ hB hp 9 R.s).set_ hB hp 10 (.int .u64 R.n)).set_ hB hp 11 (.int .i64 R.a))
theorem mregion_any (k : Int) (w : World) :
    Calls Try.prog 67 #[.int .i64 k] w fun e w' => e = .returned (.bool (regE k)) ∧ w = w' := by
  go_enter Try.func67, Try.ntmps67
  go_wp2
  all_goals go_ret
  all_goals (refine ⟨?_, rfl⟩; simp [regE]; omega)
theorem mregion_is (k : Int) (b : Bool) (h : regE k = b) (w : World) :
    Calls Try.prog 67 #[.int .i64 k] w fun e w' => e = .returned (.bool b) ∧ w = w' := by
  subst h; exact mregion_any k w
theorem rregion20_any (k : Int) (w : World) :
    Calls Try.prog 72 #[.int .i64 k] w fun e w' => e = .returned (.bool (regE k)) ∧ w = w' := by
  go_enter Try.func72, Try.ntmps72
  go_wp2
  all_goals go_ret
  all_goals (refine ⟨?_, rfl⟩; simp [regE]; omega)
theorem rregion20_is (k : Int) (b : Bool) (h : regE k = b) (w : World) :
    Calls Try.prog 72 #[.int .i64 k] w fun e w' => e = .returned (.bool b) ∧ w = w' := by
  subst h; exact rregion20_any k w
theorem mnot (e : Ev) (oe : e.ok) (b : Bool) (h : emayB e = b) (w : World) : Calls Try.prog 69 #[.agg (evA e)] w fun r w' => r = .returned (.bool (!b)) ∧ Below w.heap.size w w' := by
  have C1 := Lib.hid (emay' e oe b h)
  clear h oe
  go_enter Try.func69, Try.ntmps69
  go_wp2_with fail
  have T0 : Trk w _ [(w.heap.size, 68, evA e)] := (Trk.nil w).push (t := 68) (cs := evA e) rfl
  refine (C1.out _).mono ?_
  rintro r w1 ⟨rfl, hb1⟩
  have T1 := T0.call hb1
  clear T0 hb1
  go_wp2_with fail
  go_ret
  exact ⟨rfl, T1.below⟩
theorem index_ev (A : Option Addr) (c : Nat) (L : List Ev) (w : World) (hL : ERows w w.heap.size A L) (hc : L.length ≤ c) (hm : c ≤ maxLen) (ok : ∀ e ∈ L, e.ok) :
    Calls Try.prog 74 #[.slice A L.length c, .func (.func 69) #[] #[]] w fun r w' => ∃ v : Int, r = .returned (.int .i64 v) ∧ decide (0 ≤ v) = !(L.all emayB) ∧ Below w.heap.size w w' := by
  have hm1 : c ≤ 9223372036854775807 := hm
  have HL := Lib.hid hL
  have OK := Lib.hid ok
  clear hL ok
  go_enter Try.func74, Try.ntmps74
  go_wp2_with fail
  go_loopw [8] (fun i wr => ∃ k : Nat, k ≤ L.length ∧ i = .int .i64 k ∧ (∀ e ∈ L.take k, emayB e = true) ∧ Below w.heap.size w wr) (fun i _ => L.length - (intOf i).toNat)
  case atStart => exact ⟨0, by omega, rfl, fun e he => by simp at he, Below.refl _ _⟩
  case round =>
    obtain ⟨k, hk, rfl, hmay, hb⟩ := hrel
    have HM := Lib.hid hmay
    clear hmay
    by_cases hlt : k < L.length
    · obtain ⟨x, hx⟩ : ∃ x, L[k]? = some x := ⟨L[k], List.getElem?_eq_getElem hlt⟩
      have okx := OK.out x (List.mem_of_getElem? hx)
      obtain ⟨b1, o1, rfl, hb1, x0, x1, x2, x3, x4, x5, x6, x7, x8, x9, x10, x11, x12, x13⟩ := ERows.at_ (HL.out.below hb) hx
      have hb2 : b1 < wr.heap.size := Nat.lt_of_lt_of_le hb1 hb.size
      have i1 : (0 : Int) ≤ (k : Int) := by omega
      have i2 : (k : Int) < (L.length : Int) := by omega
      obtain ⟨y, hy⟩ : ∃ y, emayB x = y := ⟨_, rfl⟩
      have C1 := Lib.hid (mnot x okx y hy)
      have HX := Lib.hid hx
      have HY := Lib.hid hy
      clear hx hy
      rcases (show y = false ∨ y = true from by cases y <;> simp) with rfl | rfl
      · go_wp2_with fail
        refine (C1.out _).mono ?_
        rintro r w2 ⟨rfl, hb3⟩
        clear x0 x1 x2 x3 x4 x5 x6 x7 x8 x9 x10 x11 x12 x13
        go_wp2_with fail
        go_ret
        refine ⟨k, rfl, ?_, hb.trans (hb3.mono hb.size)⟩
        have : L.all emayB = false := List.all_eq_false.2 ⟨x, List.mem_of_getElem? HX.out, by simp [HY.out]⟩
        rw [this]; simp
      · go_wp2_with fail
        refine (C1.out _).mono ?_
        rintro r w2 ⟨rfl, hb3⟩
        clear x0 x1 x2 x3 x4 x5 x6 x7 x8 x9 x10 x11 x12 x13
        go_wp2_with fail
        go_roundw
        case rel =>
          refine ⟨k + 1, by omega, by go_num, fun e he => ?_, hb.trans (hb3.mono hb.size)⟩
          rw [List.take_add_one, HX.out] at he
          rcases List.mem_append.1 he with he | he
          · exact HM.out e he
          · obtain rfl : e = x := by simpa using he
            exact HY.out
        case measure => simp [intOf]; omega
    · obtain rfl : k = L.length := by omega
      go_wp2_with fail
      go_ret
      refine ⟨-1, rfl, ?_, hb⟩
      have hmay := HM.out
      rw [List.take_of_length_le (Nat.le_refl _)] at hmay
      have : L.all emayB = true := List.all_eq_true.2 hmay
      rw [this]; rfl
theorem contains_ev (A : Option Addr) (c : Nat) (L : List Ev) (b : Bool) (h : L.all emayB = b) (w : World) (hL : ERows w w.heap.size A L) (hc : L.length ≤ c) (hm : c ≤ maxLen) (ok : ∀ e ∈ L, e.ok) :
    Calls Try.prog 68 #[.slice A L.length c, .func (.func 69) #[] #[]] w fun r w' => r = .returned (.bool (!b)) ∧ Below w.heap.size w w' := by
  have C1 := Lib.hid (index_ev A c L w hL hc hm ok)
  rw [h] at C1
  clear hL ok h
  go_enter Try.func68, Try.ntmps68
  go_wp2_with fail
  refine C1.out.mono ?_
  rintro r w1 ⟨v, rfl, hv, hb⟩
  go_wp2_with fail
  go_ret
  exact ⟨rfl, hb⟩
end Go.Proofs.Ytnhjphmcdamoaaa
