/-
  The walks of package octet: width, Put, Take, at the sizes 1 and 8.
-/
import Derived.Test.YtolfnilickfneaaByt
namespace Go.Proofs.Ytolfnilickfneaa
set_option linter.unusedVariables false
set_option linter.unusedSimpArgs false
open Go.RowKit

/-- The last bytes of a number. -/
def putL (n : Int) (sz : Nat) : List Int := (wordL n).drop (8 - sz)
theorem putL_8 (n : Int) : putL n 8 = wordL n := rfl
theorem putL_1 (n : Int) (h0 : 0 ≤ n) (h1 : n < 256) : putL n 1 = [n] := by
  have : n % 256 = n := by omega
  show [n % 256] = [n]
  rw [this]
theorem width_8 (w : World) : Calls Try.prog 80 #[.int .i64 8] w fun e w' => e = .returned (.int .i64 64) ∧ w = w' := by
  go_enter Try.func80, Try.ntmps80
  go_wp2
  go_ret
  exact ⟨rfl, rfl⟩
theorem width_1 (w : World) : Calls Try.prog 80 #[.int .i64 1] w fun e w' => e = .returned (.int .i64 8) ∧ w = w' := by
  go_enter Try.func80, Try.ntmps80
  go_wp2
  go_ret
  exact ⟨rfl, rfl⟩
theorem putL_get (n : Int) (sz : Nat) (hs : sz ≤ 8) (j : Nat) (h : j < sz) : (putL n sz)[j]? = some (byteAt n (8 - sz + j)) := by
  unfold putL; rw [List.getElem?_drop]; exact wordL_get n _ (by omega)
theorem byte_shr (n : Int) (sz : Nat) (hs : sz ≤ 8) (j : Nat) (h : j < sz) (c : Int) (hc : c = 8 * (sz : Int) - 8 - 8 * j) : byteAt n (8 - sz + j) = n / 2 ^ c.toNat % 256 := by
  rw [← byteAt_shr n _ (by omega)]
  congr 3; omega
/-- New bytes and a number are answered. -/
def GivesBE (l : List Int) (n : Int) (w : World) (e : Ending) (w' : World) : Prop := ∃ u, e = .returned (.tuple #[u, .int .i64 n]) ∧ w'.ownsRow w.heap.size 5 1 u l.length (bcells l) ∧ Below w.heap.size w w'
theorem run_mk (m : Nat) (hm : m ≤ 100000000) (k : Nat) (hk : k ≤ 100) (W : World) : (Instr.makeSlice 42 (.int .i64 0) (.int .i64 ((m : Int) + (k : Int)))).run Try.prog W = .ok (.slice (some ⟨W.heap.size, 0, none⟩) 0 (m + k)) (W.alloc (.cells (madeCells #[.int .u8 0] (m + k)) 5)) := by
  obtain ⟨i0, hi0, hz0, hz1, hz2⟩ := info_parts infoU8
  have h := run_make (P := Try.prog) W 42 5 i0 _ Try.underlying42 hi0 hz0 .i64 .i64 0 ((m : Int) + k) (by omega) (by omega) (by rw [hz2]; omega) (by omega)
  rw [hz1, show (((m : Int) + k).toNat * 1) = m + k from by omega, show ((m : Int) + k).toNat = m + k from by omega] at h
  exact h
set_option maxHeartbeats 400000 in
theorem oput8 (A : Option Addr) (cap : Nat) (l : List Int) (B : Nat) (n : Int) (w : World) (hL : BRows w B A l) (hB : B ≤ w.heap.size) (hc : l.length ≤ cap) (hm : cap ≤ maxLen) (hl : l.length ≤ 100000000) (h0 : 0 ≤ n) (h1 : n ≤ 18446744073709551615) :
    Calls Try.prog 67 #[.slice A l.length cap, .int .u64 n, .int .i64 8] w (GivesBE (l ++ putL n 8) 0 w) := by
  have C1 := Lib.hid width_8
  have hmk := run_mk l.length hl 8 (by omega)
  rw [show ((8 : Nat) : Int) = 8 from rfl] at hmk
  have hm1 : cap ≤ 9223372036854775807 := hm
  go_enter Try.func67, Try.ntmps67
  go_wp2_with (first
    | (go_at_call 80; (with_reducible refine (C1.out _).mono ?_); rintro e w3 ⟨rfl, rfl⟩)
    | (at_builtin; go_loud (refine append_u8s _ rfl (.tmp 24) (.tmp 25) rfl w.heap.size _ [] l rfl ?h1 A cap B rfl ?h2 ?h3 ?h4 ?_; (case h1 => exact World.ownsRow_made w _ (l.length + 8) (Nat.le_refl _) (by unfold maxLen; omega) (by rw [size_madeCells, Nat.mul_one])); (case h2 => exact hL.below ((Below.refl _ _).alloc hB _)); (case h3 => simp; omega); (case h4 => simp); intro v' w1 hown1 hb1)))

  rw [List.nil_append] at hown1
  have hb1 := ((Below.refl w.heap.size w).alloc (Nat.le_refl _) _).trans hb1
  clear hL
  go_loopw [8, 9] (fun i o wr => ∃ (j : Nat) (c : Int), j ≤ 8 ∧ c = 56 - 8 * (j : Int) ∧ i = .int .i64 c ∧ wr.ownsRow w.heap.size 5 1 o (l ++ (putL n 8).take j).length (bcells (l ++ (putL n 8).take j)) ∧ Below w.heap.size w wr) (fun i _ _ => (intOf i + 8).toNat)
  case atStart => exact ⟨0, 56, by omega, rfl, rfl, by simpa using hown1, hb1⟩
  case round =>
    obtain ⟨j, c, hj, hcj, rfl, hown, hb⟩ := hrel
    clear hown1 hb1
    have hlen : (putL n 8).length = 8 := rfl
    by_cases hlt : j < 8
    · have hsn := Lib.hid (show (putL n 8).take (j + 1) = (putL n 8).take j ++ [n / 2 ^ c.toNat % 256] from by rw [List.take_add_one, putL_get n 8 (by omega) j hlt, byte_shr n 8 (by omega) j hlt c (by omega)]; rfl)
      have c0 : 0 ≤ c := by omega
      have c1 : c ≤ 56 := by omega
      have hll : (l ++ (putL n 8).take j).length ≤ 100000008 := by rw [List.length_append, List.length_take, hlen]; omega
      generalize hm : l ++ (putL n 8).take j = m at hown hll
      have HM := Lib.hid hm
      have HC := Lib.hid hcj
      have hsz := hb.size
      clear hm hcj hlen
      go_wp2_with (at_builtin; refine append_u8 _ rfl (.tmp 33) (.tmp 38) rfl w.heap.size _ m _ rfl (hown.alloc _) wr.heap.size rfl (Blk.new _ _ _) (by omega) (by simp; omega) ?_; intro v' w' hown' hb')
      go_roundw
      case rel =>
        have e : l ++ (putL n 8).take (j + 1) = m ++ [n / 2 ^ c.toNat % 256] := by rw [hsn.out, ← List.append_assoc, HM.out]
        refine ⟨j + 1, c - 8, by omega, by rw [HC.out]; omega, rfl, ?_, (hb.alloc hsz _).trans hb'⟩
        rw [e]; exact hown'
      case measure => simp [intOf]; omega
    · obtain rfl : j = 8 := by omega
      obtain rfl : c = -8 := by omega
      rw [List.take_of_length_le (by rw [hlen]; exact Nat.le_refl _)] at hown
      clear hlen hcj hlt hj
      go_wp2_with fail
      go_ret2
      exact ⟨_, rfl, hown, hb⟩
set_option maxHeartbeats 400000 in
theorem oput1 (A : Option Addr) (cap : Nat) (l : List Int) (B : Nat) (n : Int) (w : World) (hL : BRows w B A l) (hB : B ≤ w.heap.size) (hc : l.length ≤ cap) (hm : cap ≤ maxLen) (hl : l.length ≤ 100000000) (h0 : 0 ≤ n) (h1 : n ≤ 255) :
    Calls Try.prog 67 #[.slice A l.length cap, .int .u64 n, .int .i64 1] w (GivesBE (l ++ putL n 1) 0 w) := by
  have C1 := Lib.hid width_1
  have hmk := run_mk l.length hl 1 (by omega)
  rw [show ((1 : Nat) : Int) = 1 from rfl] at hmk
  have hm1 : cap ≤ 9223372036854775807 := hm
  go_enter Try.func67, Try.ntmps67
  go_wp2_with (first
    | (go_at_call 80; (with_reducible refine (C1.out _).mono ?_); rintro e w3 ⟨rfl, rfl⟩)
    | (at_builtin; go_loud (refine append_u8s _ rfl (.tmp 24) (.tmp 25) rfl w.heap.size _ [] l rfl ?h1 A cap B rfl ?h2 ?h3 ?h4 ?_; (case h1 => exact World.ownsRow_made w _ (l.length + 1) (Nat.le_refl _) (by unfold maxLen; omega) (by rw [size_madeCells, Nat.mul_one])); (case h2 => exact hL.below ((Below.refl _ _).alloc hB _)); (case h3 => simp; omega); (case h4 => simp); intro v' w1 hown1 hb1)))

  rw [List.nil_append] at hown1
  have hb1 := ((Below.refl w.heap.size w).alloc (Nat.le_refl _) _).trans hb1
  clear hL
  go_loopw [8, 9] (fun i o wr => ∃ (j : Nat) (c : Int), j ≤ 1 ∧ c = 0 - 8 * (j : Int) ∧ i = .int .i64 c ∧ wr.ownsRow w.heap.size 5 1 o (l ++ (putL n 1).take j).length (bcells (l ++ (putL n 1).take j)) ∧ Below w.heap.size w wr) (fun i _ _ => (intOf i + 8).toNat)
  case atStart => exact ⟨0, 0, by omega, rfl, rfl, by simpa using hown1, hb1⟩
  case round =>
    obtain ⟨j, c, hj, hcj, rfl, hown, hb⟩ := hrel
    clear hown1 hb1
    have hlen : (putL n 1).length = 1 := rfl
    by_cases hlt : j < 1
    · have hsn := Lib.hid (show (putL n 1).take (j + 1) = (putL n 1).take j ++ [n / 2 ^ c.toNat % 256] from by rw [List.take_add_one, putL_get n 1 (by omega) j hlt, byte_shr n 1 (by omega) j hlt c (by omega)]; rfl)
      have c0 : 0 ≤ c := by omega
      have c1 : c ≤ 0 := by omega
      have hll : (l ++ (putL n 1).take j).length ≤ 100000008 := by rw [List.length_append, List.length_take, hlen]; omega
      generalize hm : l ++ (putL n 1).take j = m at hown hll
      have HM := Lib.hid hm
      have HC := Lib.hid hcj
      have hsz := hb.size
      clear hm hcj hlen
      go_wp2_with (at_builtin; refine append_u8 _ rfl (.tmp 33) (.tmp 38) rfl w.heap.size _ m _ rfl (hown.alloc _) wr.heap.size rfl (Blk.new _ _ _) (by omega) (by simp; omega) ?_; intro v' w' hown' hb')
      go_roundw
      case rel =>
        have e : l ++ (putL n 1).take (j + 1) = m ++ [n / 2 ^ c.toNat % 256] := by rw [hsn.out, ← List.append_assoc, HM.out]
        refine ⟨j + 1, c - 8, by omega, by rw [HC.out]; omega, rfl, ?_, (hb.alloc hsz _).trans hb'⟩
        rw [e]; exact hown'
      case measure => simp [intOf]; omega
    · obtain rfl : j = 1 := by omega
      obtain rfl : c = -8 := by omega
      rw [List.take_of_length_le (by rw [hlen]; exact Nat.le_refl _)] at hown
      clear hlen hcj hlt hj
      go_wp2_with fail
      go_ret2
      exact ⟨_, rfl, hown, hb⟩
theorem otake8 (b o cap : Nat) (l : List Int) (at_ : Nat) (w : World) (hc : ∀ i x, l[i]? = some x → w.cell? ⟨b, o + i, none⟩ = some (.int .u8 x)) (hn : l.length ≤ cap) (hm : cap ≤ maxLen) (hby : ∀ c ∈ l, 0 ≤ c ∧ c ≤ 255) (h : at_ + 8 ≤ l.length) :
    Calls Try.prog 58 #[.slice (some ⟨b, o, none⟩) l.length cap, .int .i64 at_, .int .i64 8] w fun e w' => e = .returned (.tuple #[.int .u64 (numL ((l.drop at_).take 8)), .int .i64 ((at_ : Int) + 8), .int .i64 0]) ∧ w = w' := by
  have C1 := Lib.hid width_8
  have hm1 : cap ≤ 9223372036854775807 := hm
  have hca : ¬ cap = at_ := by omega
  have HC := Lib.hid hc
  clear hc
  go_enter Try.func58, Try.ntmps58
  go_wp2_with (go_at_call 80; (with_reducible refine (C1.out _).mono ?_); rintro e w3 ⟨rfl, rfl⟩)
  have hlk : ((l.drop at_).take 8).length = 8 := by rw [List.length_take, List.length_drop]; omega
  go_loop [6, 36] (fun n i => ∃ j : Nat, j ≤ 8 ∧ i = .int .i64 j ∧ n = .int .u64 (numL ((l.drop at_).take j))) (fun _ i => 8 - (intOf i).toNat)
  case atStart => exact ⟨0, by omega, rfl, rfl⟩
  case round =>
    obtain ⟨j, hj, rfl, rfl⟩ := hrel
    clear hlk
    by_cases hlt : j < 8
    · obtain ⟨x, hx⟩ : ∃ x, l[at_ + j]? = some x := ⟨l[at_ + j]'(by omega), List.getElem?_eq_getElem (by omega)⟩
      have hcell := HC.out _ x hx
      rw [← Nat.add_assoc] at hcell
      obtain ⟨x0, x1⟩ := hby x (List.mem_of_getElem? hx)
      have hnum := Lib.hid (numL_take (l.drop at_) j x (by rw [List.getElem?_drop]; exact hx))
      have hor := or_byte (numL ((l.drop at_).take j)) x x0 (by omega)
      generalize numL ((l.drop at_).take j) = n at hnum hor
      have hwr : IntKind.u64.wrap (n * 256) = n * 256 % 18446744073709551616 := IntKind.wrap_u64 _
      clear hx
      go_wp2_with fail
      go_round
      case rel => exact ⟨j + 1, by omega, by go_num, by rw [hnum.out]⟩
      case measure => simp [intOf]; omega
    · obtain rfl : j = 8 := by omega
      clear hj hlt
      go_wp2_with fail
      go_ret3
      exact ⟨rfl, rfl⟩
theorem otake1 (b o cap : Nat) (l : List Int) (at_ : Nat) (w : World) (hc : ∀ i x, l[i]? = some x → w.cell? ⟨b, o + i, none⟩ = some (.int .u8 x)) (hn : l.length ≤ cap) (hm : cap ≤ maxLen) (hby : ∀ c ∈ l, 0 ≤ c ∧ c ≤ 255) (h : at_ + 1 ≤ l.length) :
    Calls Try.prog 58 #[.slice (some ⟨b, o, none⟩) l.length cap, .int .i64 at_, .int .i64 1] w fun e w' => e = .returned (.tuple #[.int .u64 (numL ((l.drop at_).take 1)), .int .i64 ((at_ : Int) + 1), .int .i64 0]) ∧ w = w' := by
  have C1 := Lib.hid width_1
  have hm1 : cap ≤ 9223372036854775807 := hm
  have hca : ¬ cap = at_ := by omega
  have HC := Lib.hid hc
  clear hc
  go_enter Try.func58, Try.ntmps58
  go_wp2_with (go_at_call 80; (with_reducible refine (C1.out _).mono ?_); rintro e w3 ⟨rfl, rfl⟩)
  have hlk : ((l.drop at_).take 1).length = 1 := by rw [List.length_take, List.length_drop]; omega
  go_loop [6, 36] (fun n i => ∃ j : Nat, j ≤ 1 ∧ i = .int .i64 j ∧ n = .int .u64 (numL ((l.drop at_).take j))) (fun _ i => 1 - (intOf i).toNat)
  case atStart => exact ⟨0, by omega, rfl, rfl⟩
  case round =>
    obtain ⟨j, hj, rfl, rfl⟩ := hrel
    clear hlk
    by_cases hlt : j < 1
    · obtain ⟨x, hx⟩ : ∃ x, l[at_ + j]? = some x := ⟨l[at_ + j]'(by omega), List.getElem?_eq_getElem (by omega)⟩
      have hcell := HC.out _ x hx
      rw [← Nat.add_assoc] at hcell
      obtain ⟨x0, x1⟩ := hby x (List.mem_of_getElem? hx)
      have hnum := Lib.hid (numL_take (l.drop at_) j x (by rw [List.getElem?_drop]; exact hx))
      have hor := or_byte (numL ((l.drop at_).take j)) x x0 (by omega)
      generalize numL ((l.drop at_).take j) = n at hnum hor
      have hwr : IntKind.u64.wrap (n * 256) = n * 256 % 18446744073709551616 := IntKind.wrap_u64 _
      clear hx
      go_wp2_with fail
      go_round
      case rel => exact ⟨j + 1, by omega, by go_num, by rw [hnum.out]⟩
      case measure => simp [intOf]; omega
    · obtain rfl : j = 1 := by omega
      clear hj hlt
      go_wp2_with fail
      go_ret3
      exact ⟨rfl, rfl⟩
theorem otake8_short (A : Option Addr) (n cap at_ : Nat) (w : World) (hn : n ≤ cap) (hm : cap ≤ maxLen) (h : n < at_ + 8) (ha : at_ ≤ n) :
    Calls Try.prog 58 #[.slice A n cap, .int .i64 at_, .int .i64 8] w fun e w' => e = .returned (.tuple #[.int .u64 0, .int .i64 0, .int .i64 5]) ∧ w = w' := by
  have C1 := Lib.hid width_8
  have hm1 : cap ≤ 9223372036854775807 := hm
  go_enter Try.func58, Try.ntmps58
  go_wp2_with (go_at_call 80; (with_reducible refine (C1.out _).mono ?_); rintro e w3 ⟨rfl, rfl⟩)
  go_ret3
  exact ⟨rfl, rfl⟩
end Go.Proofs.Ytolfnilickfneaa
