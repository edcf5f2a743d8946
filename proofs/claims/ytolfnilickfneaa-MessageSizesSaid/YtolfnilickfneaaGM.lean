/-
  leatref20.Get, whole.
  A message that is loaded, in a region that draws its order; bytes copied.
-/
import Derived.Test.YtolfnilickfneaaNa
import Derived.Test.YtolfnilickfneaaNb
import Derived.Test.YtolfnilickfneaaNc
import Derived.Test.YtolfnilickfneaaNd
import Derived.Test.YtolfnilickfneaaNe
import Derived.Test.YtolfnilickfneaaGC
import Derived.Test.YtolfnilickfneaaMw
import Derived.Test.YtolfnilickfneaaGL
namespace Go.Proofs.Ytolfnilickfneaa
set_option linter.unusedVariables false
set_option linter.unusedSimpArgs false
open Go.RowKit

theorem rget20 (A : Option Addr) (cap : Nat) (b : List Int) (B : Nat) (w : World) (hL : BRows w B A b) (hB : B ≤ w.heap.size) (hn : b.length ≤ cap) (hm : cap ≤ maxLen) (hlen : b.length ≤ 10000) (hby : ∀ c ∈ b, 0 ≤ c ∧ c ≤ 255) :
    Calls Try.prog 41 #[.slice A b.length cap] w (GivesM (getM b) w) := by
  by_cases h51 : 51 ≤ b.length
  · obtain ⟨b0, o, rfl, hlt, hc⟩ := hL (by rintro rfl; simp at h51)
    have hb : b0 < w.heap.size := by omega
    by_cases k2 : b.getD 0 0 = 2
    · by_cases hr : b.length = 67
      · exact rget_ask_two b0 o cap b w hc hb hn hm hby h51 hlen (by omega) k2 hr
      · by_cases hcap : cap = 51
        · exact rget_rest_two51 b0 o cap b w hc hb hn hm hby h51 hlen hcap k2 hr
        · exact rget_rest_two b0 o cap b w hc hb hn hm hby h51 hlen hcap k2 hr
    · by_cases hcap : cap = 51
      · exact rget_rest_other51 b0 o cap b w hc hb hn hm hby h51 hlen hcap k2
      · exact rget_rest_other b0 o cap b w hc hb hn hm hby h51 hlen hcap k2
  · rw [getM_no fun h => h51 h.1]
    exact rget_short A b.length cap w hn hm (by omega)
end Go.Proofs.Ytolfnilickfneaa
namespace Go.Proofs.Ytolfnilickfneaa
set_option linter.unusedVariables false
set_option linter.unusedSimpArgs false
open Go.RowKit

section
variable {ops : Array Oper} {W w0 : World} {bs : List (Nat × TypeId × Array Value)} {E : List En} {Q : Act → Known → Prop} {i : Nat} {o : Oper} {rest : List Oper} {a : Act} {F : Known}
theorem lw_loadm (T : Trk w0 W bs) (hw : Region.wanted o (yielded ops a.tmps) = true) (x : Operand) (ho : o.op = .load 54 x) (g : Nat) (v : Mc) (hx : a.eval x = .pointer (some ⟨g, 0, none⟩)) (hE : E[i]? = some (.is (.agg (mcA v)))) (hm : (g, 54, mcA v) ∈ bs)
    (h : Lw Try.prog ops W E Q (i + 1) rest (a.put o.dst (.agg (mcA v))) (F.ins i (.agg (mcA v)))) : Lw Try.prog ops W E Q i (o :: rest) a F :=
  lw_val hw _ hE (fun w hb => by
    have hB := (T.blk _ _ _ hm).below hb (T.blk _ _ _ hm).lt
    obtain ⟨q, -⟩ := hB.rules
    have hl := hB.lt
    unfold execOp; rw [ho]; generalize a.eval = ρ at hx; simp [hx, go_sem, q]) h
end
theorem append_u8q {ops : Array Oper} {rest : List Oper} {o : Oper} {a : Act} {Q : Exit → Act → World → Prop} (w : World) (hgd : o.guard = none) (s x : Operand)
    (ho : o.op = .call { callee := .builtin .append, args := #[s, x], argTypes := #[42, 42] })
    (base : Nat) (v : Value) (L M : List Int) (m : Nat) (hm : M.length = m) (hs : a.eval s = v) (hown : w.ownsRow base 5 1 v L.length (bcells L)) (A : Option Addr) (c B : Nat) (hx : a.eval x = .slice A m c) (hM : BRows w B A M)
    (hn : L.length + M.length ≤ 1000000000) (hbase : base ≤ w.heap.size)
    (h : ∀ v' w', w'.ownsRow base 5 1 v' (L ++ M).length (bcells (L ++ M)) → Below base w w' → w.grownBy w' v.ownBlock → wpList Try.prog ops Q rest (a.put o.dst v') w') : wpList Try.prog ops Q (o :: rest) a w := by
  subst hm; exact append_u8sG w hgd s x ho base v L M hs hown A c B hx hM hn hbase h
/-- Get, of bytes wherever they stand. -/
theorem mget' (b : List Int) (hlen : b.length ≤ 10000) (hby : ∀ c ∈ b, 0 ≤ c ∧ c ≤ 255) (A : Option Addr) (cap : Nat) (w : World) (h : BytesIs b (.slice A b.length cap) w) : Calls Try.prog 40 #[.slice A b.length cap] w (GivesM (getM b) w) := by
  obtain ⟨A', c', e, h1, h2, h3⟩ := h
  injection e with e1 e2 e3
  subst e1 e3
  exact mget A cap b w.heap.size w h3 (Nat.le_refl _) h1 h2 hlen hby
theorem rget20' (b : List Int) (hlen : b.length ≤ 10000) (hby : ∀ c ∈ b, 0 ≤ c ∧ c ≤ 255) (A : Option Addr) (cap : Nat) (w : World) (h : BytesIs b (.slice A b.length cap) w) : Calls Try.prog 41 #[.slice A b.length cap] w (GivesM (getM b) w) := by
  obtain ⟨A', c', e, h1, h2, h3⟩ := h
  injection e with e1 e2 e3
  subst e1 e3
  exact rget20 A cap b w.heap.size w h3 (Nat.le_refl _) h1 h2 hlen hby
theorem BytesIs.of_rows {w w' : World} {A : Option Addr} {l : List Int} {c : Nat} (hL : BRows w w.heap.size A l) (hc : l.length ≤ c) (hm : c ≤ maxLen) (hW : Below w.heap.size w w') : BytesIs l (.slice A l.length c) w' :=
  ⟨A, c, rfl, hc, hm, fun hne => by
    obtain ⟨b, o, e', hlt, hcc⟩ := (hL.below hW) hne
    exact ⟨b, o, e', Nat.lt_of_lt_of_le hlt hW.size, hcc⟩⟩
end Go.Proofs.Ytolfnilickfneaa
