/-
  Numbers as bytes, the highest first: plain facts. No program here.
-/
import Derived.Test.YtgannlbhhanflaaSlc
namespace Go.Proofs.Ytgannlbhhanflaa
set_option linter.unusedVariables false
set_option linter.unusedSimpArgs false
open Go.RowKit

/-- The j-th byte of a number of 64 bits. -/
def byteAt (n : Int) : Nat → Int
  | 0 => n / 72057594037927936 % 256
  | 1 => n / 281474976710656 % 256
  | 2 => n / 1099511627776 % 256
  | 3 => n / 4294967296 % 256
  | 4 => n / 16777216 % 256
  | 5 => n / 65536 % 256
  | 6 => n / 256 % 256
  | _ => n % 256
def wordL (n : Int) : List Int := [byteAt n 0, byteAt n 1, byteAt n 2, byteAt n 3, byteAt n 4, byteAt n 5, byteAt n 6, byteAt n 7]
theorem wordL_length (n : Int) : (wordL n).length = 8 := rfl
theorem eight {P : Nat → Prop} (h0 : P 0) (h1 : P 1) (h2 : P 2) (h3 : P 3) (h4 : P 4) (h5 : P 5) (h6 : P 6) (h7 : P 7) (k : Nat) (h : k < 8) : P k := by
  match k, h with
  | 0, _ => exact h0
  | 1, _ => exact h1
  | 2, _ => exact h2
  | 3, _ => exact h3
  | 4, _ => exact h4
  | 5, _ => exact h5
  | 6, _ => exact h6
  | 7, _ => exact h7
theorem wordL_get (n : Int) (j : Nat) (h : j < 8) : (wordL n)[j]? = some (byteAt n j) :=
  eight (P := fun j => (wordL n)[j]? = some (byteAt n j)) rfl rfl rfl rfl rfl rfl rfl rfl j h
theorem wordL_take (n : Int) (j : Nat) (h : j < 8) : (wordL n).take (j + 1) = (wordL n).take j ++ [byteAt n j] := by
  rw [List.take_add_one, wordL_get n j h]; rfl
/-- What is left when j bytes have been turned to the end. -/
def rotN (n : Int) : Nat → Int
  | 0 => byteAt n 0 * 72057594037927936 + byteAt n 1 * 281474976710656 + byteAt n 2 * 1099511627776 + byteAt n 3 * 4294967296 + byteAt n 4 * 16777216 + byteAt n 5 * 65536 + byteAt n 6 * 256 + byteAt n 7
  | 1 => byteAt n 1 * 72057594037927936 + byteAt n 2 * 281474976710656 + byteAt n 3 * 1099511627776 + byteAt n 4 * 4294967296 + byteAt n 5 * 16777216 + byteAt n 6 * 65536 + byteAt n 7 * 256 + byteAt n 0
  | 2 => byteAt n 2 * 72057594037927936 + byteAt n 3 * 281474976710656 + byteAt n 4 * 1099511627776 + byteAt n 5 * 4294967296 + byteAt n 6 * 16777216 + byteAt n 7 * 65536 + byteAt n 0 * 256 + byteAt n 1
  | 3 => byteAt n 3 * 72057594037927936 + byteAt n 4 * 281474976710656 + byteAt n 5 * 1099511627776 + byteAt n 6 * 4294967296 + byteAt n 7 * 16777216 + byteAt n 0 * 65536 + byteAt n 1 * 256 + byteAt n 2
  | 4 => byteAt n 4 * 72057594037927936 + byteAt n 5 * 281474976710656 + byteAt n 6 * 1099511627776 + byteAt n 7 * 4294967296 + byteAt n 0 * 16777216 + byteAt n 1 * 65536 + byteAt n 2 * 256 + byteAt n 3
  | 5 => byteAt n 5 * 72057594037927936 + byteAt n 6 * 281474976710656 + byteAt n 7 * 1099511627776 + byteAt n 0 * 4294967296 + byteAt n 1 * 16777216 + byteAt n 2 * 65536 + byteAt n 3 * 256 + byteAt n 4
  | 6 => byteAt n 6 * 72057594037927936 + byteAt n 7 * 281474976710656 + byteAt n 0 * 1099511627776 + byteAt n 1 * 4294967296 + byteAt n 2 * 16777216 + byteAt n 3 * 65536 + byteAt n 4 * 256 + byteAt n 5
  | 7 => byteAt n 7 * 72057594037927936 + byteAt n 0 * 281474976710656 + byteAt n 1 * 1099511627776 + byteAt n 2 * 4294967296 + byteAt n 3 * 16777216 + byteAt n 4 * 65536 + byteAt n 5 * 256 + byteAt n 6
  | _ => byteAt n 0 * 72057594037927936 + byteAt n 1 * 281474976710656 + byteAt n 2 * 1099511627776 + byteAt n 3 * 4294967296 + byteAt n 4 * 16777216 + byteAt n 5 * 65536 + byteAt n 6 * 256 + byteAt n 7
def rot8 (x : Int) : Int := x * 256 % 18446744073709551616 + x / 72057594037927936
theorem rot8_lin (x c y : Int) (e : x = 72057594037927936 * c + y) (c0 : 0 ≤ c) (c1 : c ≤ 255) (y0 : 0 ≤ y) (y1 : y < 72057594037927936) : rot8 x = y * 256 + c := by
  subst e; unfold rot8; omega
theorem byteAt_range (n : Int) (j : Nat) : 0 ≤ byteAt n j ∧ byteAt n j ≤ 255 := by
  unfold byteAt
  split <;> omega
theorem bytes_sum (n : Int) (h0 : 0 ≤ n) (h1 : n ≤ 18446744073709551615) : n = byteAt n 0 * 72057594037927936 + byteAt n 1 * 281474976710656 + byteAt n 2 * 1099511627776 + byteAt n 3 * 4294967296 + byteAt n 4 * 16777216 + byteAt n 5 * 65536 + byteAt n 6 * 256 + byteAt n 7 := by
  simp only [byteAt]; omega
theorem rotN_zero (n : Int) (h0 : 0 ≤ n) (h1 : n ≤ 18446744073709551615) : rotN n 0 = n := (bytes_sum n h0 h1).symm
theorem rotN_range (n : Int) (j : Nat) : 0 ≤ rotN n j ∧ rotN n j ≤ 18446744073709551615 := by
  have r0 := byteAt_range n 0
  have r1 := byteAt_range n 1
  have r2 := byteAt_range n 2
  have r3 := byteAt_range n 3
  have r4 := byteAt_range n 4
  have r5 := byteAt_range n 5
  have r6 := byteAt_range n 6
  have r7 := byteAt_range n 7
  unfold rotN
  split <;> omega
theorem rotN_succ (n : Int) (j : Nat) (h : j < 8) : rot8 (rotN n j) = rotN n (j + 1) := by
  have r0 := byteAt_range n 0
  have r1 := byteAt_range n 1
  have r2 := byteAt_range n 2
  have r3 := byteAt_range n 3
  have r4 := byteAt_range n 4
  have r5 := byteAt_range n 5
  have r6 := byteAt_range n 6
  have r7 := byteAt_range n 7
  refine eight (P := fun j => rot8 (rotN n j) = rotN n (j + 1)) ?_ ?_ ?_ ?_ ?_ ?_ ?_ ?_ j h
  · rw [rot8_lin (rotN n 0) (byteAt n 0) (rotN n 0 - byteAt n 0 * 72057594037927936) (by omega) (by omega) (by omega) (by simp only [rotN]; omega) (by simp only [rotN]; omega)]; simp only [rotN]; omega
  · rw [rot8_lin (rotN n 1) (byteAt n 1) (rotN n 1 - byteAt n 1 * 72057594037927936) (by omega) (by omega) (by omega) (by simp only [rotN]; omega) (by simp only [rotN]; omega)]; simp only [rotN]; omega
  · rw [rot8_lin (rotN n 2) (byteAt n 2) (rotN n 2 - byteAt n 2 * 72057594037927936) (by omega) (by omega) (by omega) (by simp only [rotN]; omega) (by simp only [rotN]; omega)]; simp only [rotN]; omega
  · rw [rot8_lin (rotN n 3) (byteAt n 3) (rotN n 3 - byteAt n 3 * 72057594037927936) (by omega) (by omega) (by omega) (by simp only [rotN]; omega) (by simp only [rotN]; omega)]; simp only [rotN]; omega
  · rw [rot8_lin (rotN n 4) (byteAt n 4) (rotN n 4 - byteAt n 4 * 72057594037927936) (by omega) (by omega) (by omega) (by simp only [rotN]; omega) (by simp only [rotN]; omega)]; simp only [rotN]; omega
  · rw [rot8_lin (rotN n 5) (byteAt n 5) (rotN n 5 - byteAt n 5 * 72057594037927936) (by omega) (by omega) (by omega) (by simp only [rotN]; omega) (by simp only [rotN]; omega)]; simp only [rotN]; omega
  · rw [rot8_lin (rotN n 6) (byteAt n 6) (rotN n 6 - byteAt n 6 * 72057594037927936) (by omega) (by omega) (by omega) (by simp only [rotN]; omega) (by simp only [rotN]; omega)]; simp only [rotN]; omega
  · rw [rot8_lin (rotN n 7) (byteAt n 7) (rotN n 7 - byteAt n 7 * 72057594037927936) (by omega) (by omega) (by omega) (by simp only [rotN]; omega) (by simp only [rotN]; omega)]; simp only [rotN]; omega
theorem rotN_byte (n : Int) (j : Nat) (h : j < 8) : rotN n (j + 1) % 256 = byteAt n j := by
  have r0 := byteAt_range n 0
  have r1 := byteAt_range n 1
  have r2 := byteAt_range n 2
  have r3 := byteAt_range n 3
  have r4 := byteAt_range n 4
  have r5 := byteAt_range n 5
  have r6 := byteAt_range n 6
  have r7 := byteAt_range n 7
  refine eight (P := fun j => rotN n (j + 1) % 256 = byteAt n j) ?_ ?_ ?_ ?_ ?_ ?_ ?_ ?_ j h <;> (simp only [rotN]; omega)
theorem byteAt_shr (n : Int) (j : Nat) (h : j < 8) : n / 2 ^ (56 - 8 * j) % 256 = byteAt n j :=
  eight (P := fun j => n / 2 ^ (56 - 8 * j) % 256 = byteAt n j) rfl rfl rfl rfl rfl rfl rfl (by simp [byteAt]) j h

/-- The number of bytes. -/
def numL (l : List Int) : Int := l.foldl (fun n c => n * 256 % 18446744073709551616 + c) 0
theorem numL_snoc (l : List Int) (c : Int) : numL (l ++ [c]) = numL l * 256 % 18446744073709551616 + c := by simp [numL]
theorem numL_range (l : List Int) (h : ∀ c ∈ l, 0 ≤ c ∧ c ≤ 255) : 0 ≤ numL l ∧ numL l ≤ 18446744073709551615 := by
  rcases List.eq_nil_or_concat l with rfl | ⟨r, c, rfl⟩
  · decide
  · rw [List.concat_eq_append] at h ⊢
    rw [numL_snoc]
    have := h c (by simp)
    omega
theorem numL_word (n : Int) (h0 : 0 ≤ n) (h1 : n ≤ 18446744073709551615) : numL (wordL n) = n := by
  simp only [numL, wordL, List.foldl_cons, List.foldl_nil, byteAt]; omega
theorem word_numL (l : List Int) (hl : l.length = 8) (h : ∀ c ∈ l, 0 ≤ c ∧ c ≤ 255) : wordL (numL l) = l := by
  match l, hl with
  | [c0, c1, c2, c3, c4, c5, c6, c7], _ =>
    have a0 := h c0 (by simp)
    have a1 := h c1 (by simp)
    have a2 := h c2 (by simp)
    have a3 := h c3 (by simp)
    have a4 := h c4 (by simp)
    have a5 := h c5 (by simp)
    have a6 := h c6 (by simp)
    have a7 := h c7 (by simp)
    clear h
    have e : numL [c0, c1, c2, c3, c4, c5, c6, c7] = c0 * 72057594037927936 + c1 * 281474976710656 + c2 * 1099511627776 + c3 * 4294967296 + c4 * 16777216 + c5 * 65536 + c6 * 256 + c7 := by
      simp only [numL, List.foldl_cons, List.foldl_nil]; omega
    rw [e]
    simp only [wordL, byteAt]
    congr 1
    · omega
    congr 1
    · omega
    congr 1
    · omega
    congr 1
    · omega
    congr 1
    · omega
    congr 1
    · omega
    congr 1
    · omega
    congr 1
    omega
/-- A vector's bytes. -/
def vecL (v : Vec) : List Int := wordL v.v0 ++ (wordL v.v1 ++ (wordL v.v2 ++ (wordL v.v3 ++ (wordL v.v4 ++ wordL v.v5))))
theorem vecL_length (v : Vec) : (vecL v).length = 48 := rfl
theorem vecL_take (v : Vec) (k : Nat) (h : k < 6) (j : Nat) (hj : j ≤ 8) : (vecL v).take (8 * k + j) = (vecL v).take (8 * k) ++ (wordL (v.get k)).take j := by
  have e : ∀ k, k < 6 → (vecL v).drop (8 * k) = wordL (v.get k) ++ (vecL v).drop (8 * k + 8) := Vec.six (P := fun k => (vecL v).drop (8 * k) = wordL (v.get k) ++ (vecL v).drop (8 * k + 8)) rfl rfl rfl rfl rfl rfl
  rw [List.take_add, e k h, List.take_append_of_le_length (by rw [wordL_length]; exact hj)]
theorem vecL_range (v : Vec) : ∀ c ∈ vecL v, 0 ≤ c ∧ c ≤ 255 := by
  intro c hc
  simp only [vecL, wordL, List.mem_append, List.mem_cons, List.mem_nil_iff, or_false] at hc
  rcases hc with h | h | h | h | h | h <;> rcases h with rfl | rfl | rfl | rfl | rfl | rfl | rfl | rfl <;> exact byteAt_range _ _
/-- The vector that bytes are. -/
def ofL (l : List Int) : Vec := Vec.ofFn fun k => numL ((l.drop (8 * k)).take 8)
theorem ofL_vecL (v : Vec) (hv : v.ok) : ofL (vecL v) = v := Vec.ext_get fun k hk => by
  rw [ofL, Vec.get_ofFn _ k hk]
  have : ((vecL v).drop (8 * k)).take 8 = wordL (v.get k) := Vec.six (P := fun k => ((vecL v).drop (8 * k)).take 8 = wordL (v.get k)) rfl rfl rfl rfl rfl rfl k hk
  rw [this, numL_word _ (hv k hk).1 (hv k hk).2]
theorem vecL_ofL (l : List Int) (hl : l.length = 48) (h : ∀ c ∈ l, 0 ≤ c ∧ c ≤ 255) : vecL (ofL l) = l := by
  have e : ∀ k, k < 6 → wordL ((ofL l).get k) = (l.drop (8 * k)).take 8 := fun k hk => by
    rw [ofL, Vec.get_ofFn _ k hk]
    exact word_numL _ (by rw [List.length_take, List.length_drop, hl]; omega) fun c hc => h c (List.mem_of_mem_drop (List.mem_of_mem_take hc))
  have s : ∀ k, (l.drop (8 * k)).take 8 ++ l.drop (8 * (k + 1)) = l.drop (8 * k) := fun k => by
    rw [show l.drop (8 * (k + 1)) = (l.drop (8 * k)).drop 8 from by rw [List.drop_drop]; congr 1]
    exact List.take_append_drop 8 _
  have e0 := e 0 (by omega)
  have e1 := e 1 (by omega)
  have e2 := e 2 (by omega)
  have e3 := e 3 (by omega)
  have e4 := e 4 (by omega)
  have e5 := e 5 (by omega)
  have t5 : (l.drop (8 * 5)).take 8 = l.drop (8 * 5) := List.take_of_length_le (by rw [List.length_drop, hl]; decide)
  unfold vecL
  simp only [Vec.get] at e0 e1 e2 e3 e4 e5
  rw [e0, e1, e2, e3, e4, e5, t5, s 4, s 3, s 2, s 1, s 0]
  rfl
theorem ofL_ok (l : List Int) (h : ∀ c ∈ l, 0 ≤ c ∧ c ≤ 255) : (ofL l).ok := fun k hk => by
  rw [ofL, Vec.get_ofFn _ k hk]
  exact numL_range _ fun c hc => h c (List.mem_of_mem_drop (List.mem_of_mem_take hc))
theorem numL_take (l : List Int) (k : Nat) (c : Int) (h : l[k]? = some c) : numL (l.take (k + 1)) = numL (l.take k) * 256 % 18446744073709551616 + c := by
  rw [List.take_add_one, h]; exact numL_snoc _ _
theorem bcells_append (l m : List Int) : bcells (l ++ m) = bcells l ++ bcells m := List.map_append
end Go.Proofs.Ytgannlbhhanflaa
