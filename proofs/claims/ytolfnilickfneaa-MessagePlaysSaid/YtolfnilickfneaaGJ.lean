/-
  What bytes give as a message: what is needed of it; bytes.Equal.
  What bytes give as a message, as the document says it: plain.
-/
import Derived.Test.YtolfnilickfneaaMc
import Derived.Test.YtolfnilickfneaaGG
import Derived.Test.YtolfnilickfneaaEa
import Derived.Test.YtolfnilickfneaaGB
namespace Go.Proofs.Ytolfnilickfneaa
set_option linter.unusedVariables false
set_option linter.unusedSimpArgs false
open Go.RowKit
set_option maxRecDepth 100000

theorem vofP_ok (l : List Int) (h : ∀ c ∈ l, 0 ≤ c ∧ c ≤ 255) : (vofP l).1.ok := by
  unfold vofP
  split
  · exact ofL_ok _ h
  · exact Vec.ok_zero
theorem allE_ok (l : List Int) (h : ∀ c ∈ l, 0 ≤ c ∧ c ≤ 255) : ∀ e ∈ (allE l).1, e.ok := by
  unfold allE
  split
  · intro e he
    obtain ⟨i, hi, rfl⟩ := List.mem_map.1 he
    have := List.mem_range.1 hi
    exact readAt_ok l _ (by omega) h
  · intro e he; cases he
theorem getD_range (b : List Int) (h : ∀ c ∈ b, 0 ≤ c ∧ c ≤ 255) (i : Nat) : 0 ≤ b.getD i 0 ∧ b.getD i 0 ≤ 255 := by
  rw [List.getD_eq_getElem?_getD]
  cases hx : b[i]? with
  | none => simp
  | some x => exact h x (List.mem_of_getElem? hx)
theorem readM_ok (b : List Int) (h : ∀ c ∈ b, 0 ≤ c ∧ c ≤ 255) : (readM b).ok := by
  have hd : ∀ k, ∀ c ∈ b.drop k, 0 ≤ c ∧ c ≤ 255 := fun k c hc => h c (List.mem_of_mem_drop hc)
  refine ⟨getD_range b h 0, ?_, ?_, ?_, ?_, ?_, ?_⟩
  · have := getD_range b h 1
    show -9223372036854775808 ≤ b.getD 1 0 ∧ b.getD 1 0 ≤ 9223372036854775807
    omega
  · have := getD_range b h 2
    show -9223372036854775808 ≤ b.getD 2 0 ∧ b.getD 2 0 ≤ 9223372036854775807
    omega
  · exact vofP_ok _ fun c hc => hd 3 c (List.mem_of_mem_take hc)
  · show ∀ e ∈ (if b.getD 0 0 = 1 then (allE (b.drop 51)).1 else []), e.ok
    split
    · exact allE_ok _ (hd 51)
    · intro e he; cases he
  · show 0 ≤ (if b.getD 0 0 = 2 then node8 (b.drop 51) else 0) ∧ (if b.getD 0 0 = 2 then node8 (b.drop 51) else 0) ≤ 18446744073709551615
    unfold node8
    split
    · split
      · exact numL_range _ fun c hc => hd 51 c (List.mem_of_mem_take hc)
      · decide
    · decide
  · show -9223372036854775808 ≤ (if b.getD 0 0 = 2 then amount8 (b.drop 51) else 0) ∧ (if b.getD 0 0 = 2 then amount8 (b.drop 51) else 0) ≤ 9223372036854775807
    unfold amount8
    split
    · split
      · rw [IntKind.wrap_i64]; omega
      · decide
    · decide
theorem bequal (A1 A2 : Option Addr) (c1 c2 : Nat) (l m : List Int) (w : World) (h1 : BytesIs l (.slice A1 l.length c1) w) (h2 : BytesIs m (.slice A2 m.length c2) w) (r1 : ∀ c ∈ l, 0 ≤ c ∧ c ≤ 255) (r2 : ∀ c ∈ m, 0 ≤ c ∧ c ≤ 255) (v : Bool) (hv : decide (l = m) = v) :
    Calls Try.prog 71 #[.slice A1 l.length c1, .slice A2 m.length c2] w fun r w' => r = .returned (.bool v) ∧ Below w.heap.size w w' := by
  have e := str_toList r1 r2
  rw [hv] at e
  have k1 := run_conv_bytes 42 5 9 Try.underlying42 Try.underlying5 Try.underlying9 h1
  have k2 := run_conv_bytes 42 5 9 Try.underlying42 Try.underlying5 Try.underlying9 h2
  generalize hs : strOfNums l = s at e k1
  generalize ht : strOfNums m = t at e k2
  generalize l.length = nl at k1 ⊢
  generalize m.length = nm at k2 ⊢
  clear hs ht h1 h2 r1 r2 hv
  go_enter Try.func71, Try.ntmps71
  go_wp2_with fail
  go_ret
  exact ⟨rfl, Below.refl _ _⟩
/-- A message and an error are answered; the events' memory is new. -/
def GivesM (x : Ms × Int) (w : World) (e : Ending) (w' : World) : Prop :=
  ∃ u, e = .returned (.tuple #[.agg (mcA ⟨x.1.k, x.1.f, x.1.t, x.1.d, u, x.1.n, x.1.a⟩), .int .i64 x.2]) ∧ w'.ownsRow w.heap.size 41 14 u x.1.l.length (ecells x.1.l) ∧ Below w.heap.size w w'
theorem results_get {fn : Func} {s1 s2 : Nat} (h : fn.results = #[.cell s1 54, .tmp s2]) (tmps : Array Value) (g : Nat) (x : Mc) (err : Int) (w : World) (ht : tmps.getD s1 undef = .pointer (some ⟨g, 0, none⟩)) (ht2 : tmps.getD s2 undef = .int .i64 err)
    (hb : Blk w g 54 (mcA x)) : (results fn tmps).run Try.prog w = .ok (.tuple #[.agg (mcA x), .int .i64 err]) w := by
  obtain ⟨q, -⟩ := hb.rules
  have h1 : tmps[s1]?.getD undef = .pointer (some ⟨g, 0, none⟩) := by rw [← ht]; simp
  have h2 : tmps[s2]?.getD undef = .int .i64 err := by rw [← ht2]; simp
  simp [results, h, h1, h2, go_sem, q]
/-- A message built of kind, from and to. -/
def bM3 (x y z : Value) : Sem Next := do pure (.value (← Instr.build 54 #[(0, x), (1, y), (2, z)]))
section
variable (ρ : Operand → Value) (dst : Option Tmp) (x y z : Operand) (ty : TypeId) (pos : String) (after : Array Edge) (guard : Option (Nat × Bool))
theorem execOp_bM3 : execOp ρ { dst, op := .build 54 #[(0, x), (1, y), (2, z)], type := ty, pos, after, guard } = bM3 (ρ x) (ρ y) (ρ z) := by simp [execOp, bM3]
end
theorem run_bM3 (k f t : Int) (w : World) : (bM3 (.int .u8 k) (.int .i64 f) (.int .i64 t)).run Try.prog w = .ok (.value (.agg (mcA ⟨k, f, t, Vec.zero, .slice none 0 0, 0, 0⟩))) w := by kernel_rfl
theorem run_bM0 (w : World) : (Instr.build 54 #[]).run Try.prog w = .ok (.agg (mcA Mc.zero)) w := by kernel_rfl
end Go.Proofs.Ytolfnilickfneaa
namespace Go.Proofs.Ytolfnilickfneaa
set_option linter.unusedVariables false
set_option linter.unusedSimpArgs false
open Go.RowKit

theorem i64_or_byte (n x : Int) (h0 : 0 ≤ x) (h1 : x < 256) : bits .or .i64 (IntKind.i64.wrap (wrap64 n * 256)) x = wrap64 (n * 256 % 18446744073709551616 + x) := by
  have e := or_byte n x h0 h1
  have e1 : IntKind.u64.wrap ((BitVec.ofInt 64 (n * 256 % 18446744073709551616) ||| BitVec.ofInt 64 x).toNat : Int) = n * 256 % 18446744073709551616 + x := e
  show IntKind.i64.wrap ((BitVec.ofInt 64 (IntKind.i64.wrap (wrap64 n * 256)) ||| BitVec.ofInt 64 x).toNat : Int) = _
  have e2 : BitVec.ofInt 64 (IntKind.i64.wrap (wrap64 n * 256)) = BitVec.ofInt 64 (n * 256 % 18446744073709551616) := by
    apply BitVec.eq_of_toNat_eq
    rw [BitVec.toNat_ofInt, BitVec.toNat_ofInt]
    congr 1
    rw [← IntWalk.i64_left, IntKind.wrap_i64, IntKind.wrap_i64]
    omega
  rw [e2]
  have hlt := (BitVec.ofInt 64 (n * 256 % 18446744073709551616) ||| BitVec.ofInt 64 x).isLt
  generalize (BitVec.ofInt 64 (n * 256 % 18446744073709551616) ||| BitVec.ofInt 64 x).toNat = t at e1 hlt ⊢
  rw [IntKind.wrap_u64] at e1
  rw [← IntWalk.i64_left]
  congr 1
  omega
theorem headM_of {b : List Int} {m : Ms} (hp : putM m = b) (h51 : 51 ≤ b.length) : mmayB m = true ∧ b = headM m ++ tailM m := by
  cases h : mmayB m with
  | false => rw [putM_no h] at hp; rw [← hp] at h51; cases h51
  | true => exact ⟨rfl, by rw [← hp, putM_yes h]⟩
theorem vecL_zero_of {m : Ms} {b : List Int} (hb : b = headM m ++ tailM m) : (b.drop 3).take 48 = vecL m.d := by rw [hb]; rfl
/-- The vector of a message's bytes is one. -/
theorem er_zero {b : List Int} (hby : ∀ c ∈ b, 0 ≤ c ∧ c ≤ 255) (h51 : 51 ≤ b.length) {m : Ms} (hd : m.d = (vofP ((b.drop 3).take 48)).1) (hp : putM m = b) : (vofP ((b.drop 3).take 48)).2 = 0 := by
  obtain ⟨hm, hb⟩ := headM_of hp h51
  have hv := vecL_zero_of hb
  have ho : m.d.ok := by rw [hd]; exact vofP_ok _ fun c hc => hby c (List.mem_of_mem_drop (List.mem_of_mem_take hc))
  rw [hv]
  unfold vofP
  rw [ofL_vecL _ ho, if_pos ⟨rfl, (mayM_of hm).d⟩]
theorem allE_nil : allE [] = ([], 0) := by decide +kernel
/-- The message as the document reads it where its kind tells events, or has none. -/
def readR (b : List Int) : Ms := ⟨b.getD 0 0, b.getD 1 0, b.getD 2 0, (vofP ((b.drop 3).take 48)).1, (allE (b.drop 51)).1, 0, 0⟩
theorem getR_rest {b : List Int} (hby : ∀ c ∈ b, 0 ≤ c ∧ c ≤ 255) (h51 : 51 ≤ b.length) (hk : ¬ (b.getD 0 0 = 2 ∧ b.length = 67)) :
    getM b = if (vofP ((b.drop 3).take 48)).2 = 0 ∧ (allE (b.drop 51)).2 = 0 ∧ putM (readR b) = b then (readR b, 0) else (Ms.zero, 5) := by
  by_cases h : putM (readM b) = b
  · obtain ⟨hm, hb⟩ := headM_of h h51
    have her := er_zero hby h51 rfl h
    rcases (mayM_of hm).k with ⟨k1, hl, hl2, hn, ha⟩ | ⟨k2, _⟩
    · have g0 : b.getD 0 0 = 1 := k1
      have e : readR b = readM b := by
        unfold readR readM
        simp only [g0]
        rfl
      have hf : (allE (b.drop 51)).2 = 0 := by
        cases hg : goodB (b.drop 51) with
        | true => rw [allE_yes hg]
        | false =>
          exfalso
          have hl0 : (readM b).l = [] := by
            show (if b.getD 0 0 = 1 then (allE (b.drop 51)).1 else []) = []
            rw [if_pos g0, allE_no hg]
          have hlen := putM_length hm
          rw [h, if_pos k1, hl0] at hlen
          have hnil : b.drop 51 = [] := List.drop_eq_nil_of_le (by simp at hlen; omega)
          rw [hnil] at hg
          have := allE_nil
          rw [allE_no hg] at this
          cases this
      rw [getM_yes h51 h, if_pos ⟨her, hf, by rw [e]; exact h⟩, e]
    · exfalso
      have hlen := putM_length hm
      rw [h, if_neg (by omega)] at hlen
      exact hk ⟨k2, hlen⟩
  · rw [getM_no fun h2 => h h2.2, if_neg]
    rintro ⟨_, _, hp⟩
    obtain ⟨hm, _⟩ := headM_of hp h51
    rcases (mayM_of hm).k with ⟨k1, _⟩ | ⟨_, _, hn, _⟩
    · have g0 : b.getD 0 0 = 1 := k1
      apply h
      have e : readR b = readM b := by
        unfold readR readM
        simp only [g0]
        rfl
      rw [← e]; exact hp
    · exact hn rfl
theorem getR_ask {b : List Int} (hby : ∀ c ∈ b, 0 ≤ c ∧ c ≤ 255) (h51 : 51 ≤ b.length) :
    getM b = if (vofP ((b.drop 3).take 48)).2 = 0 ∧ putM (readM b) = b then (readM b, 0) else (Ms.zero, 5) := by
  by_cases h : putM (readM b) = b
  · rw [getM_yes h51 h, if_pos ⟨er_zero hby h51 rfl h, h⟩]
  · rw [getM_no fun h2 => h h2.2, if_neg fun h2 => h h2.2]
theorem readR_ok (b : List Int) (h : ∀ c ∈ b, 0 ≤ c ∧ c ≤ 255) : (readR b).ok := by
  have o := readM_ok b h
  exact ⟨o.k, o.f, o.t, o.d, allE_ok _ fun c hc => h c (List.mem_of_mem_drop hc), show 0 ≤ (0 : Int) ∧ (0 : Int) ≤ 18446744073709551615 from by decide, show -9223372036854775808 ≤ (0 : Int) ∧ (0 : Int) ≤ 9223372036854775807 from by decide⟩
theorem vofP_err (l : List Int) : (vofP l).2 = 0 ∨ (vofP l).2 = 5 := by
  unfold vofP; split
  · exact .inl rfl
  · exact .inr rfl
theorem allE_err (l : List Int) : (allE l).2 = 0 ∨ (allE l).2 = 5 := by
  unfold allE; split
  · exact .inl rfl
  · exact .inr rfl
end Go.Proofs.Ytolfnilickfneaa
