/-
  The walk of slices.Delete of one message.
-/
import Derived.Test.YtnhjphmcdamoaaaNt9
import Derived.Lib.SliceRun
namespace Go.Proofs.Ytnhjphmcdamoaaa
set_option linter.unusedVariables false
set_option linter.unusedSimpArgs false
open Go.RowKit Go
set_option maxRecDepth 100000

/-- append in place, as one step of a region that draws. -/
theorem step_append_in {ops : Array Oper} {o : Oper} {a : Act} {w : World} {K : Act → World → Prop} {Q : Exit → Act → World → Prop} {E : Prop} (hgd : o.guard = none) (s x : Operand)
    (ho : o.op = .call { callee := .builtin .append, args := #[s, x], argTypes := #[60, 60] })
    (g n cap : Nat) (cur : Array Value) (hg : w.heap[g]? = some (.cells cur 48 (0, 0))) (hs : a.eval s = .slice (some ⟨g, 0, none⟩) n cap) (A : Addr) (m c : Nat) (hx : a.eval x = .slice (some A) m c) (L : List Mc) (hm : L.length = m) (hsl : ∀ x ∈ L, x.sl)
    (hnews : ∀ j u, (mcells L)[j]? = some u → w.cell? (A.add j) = some u) (r : Nat) (hr : n + m = r) (hroom : n + m ≤ cap) (hfit : n * 12 + m * 12 ≤ cur.size)
    (h : K (a.put o.dst (.slice (some ⟨g, 0, none⟩) r cap)) (w.setRow g (cur.toList.take (n * 12) ++ mcells L ++ cur.toList.drop (n * 12 + m * 12)).toArray)) : if Region.wanted o (yielded ops a.tmps) = true then Oper.wp Try.prog o a w K Q else E := by
  subst hm
  subst hr
  have hw : Region.wanted o (yielded ops a.tmps) = true := by simp [Region.wanted, hgd]
  rw [if_pos hw]
  obtain ⟨i0, hi0, hz0, hz1, hz2⟩ := info_parts infoMsg
  have hrun := run_append_room (P := Try.prog) w 60 o.type 48 i0 Try.underlying60 hi0 g n cap cur hg A L.length c (mcells L) (by rw [mcells_length, hz1]) hnews (mcells_cell hsl) hroom (by rw [hz1, mcells_length]; exact hfit)
  rw [hz1, mcells_length] at hrun
  unfold Oper.wp execOp
  simp only [ho, resolve, invoke, builtin, Sem.run_bind, Sem.run_pure, Result.andThen_ok, List.map_toArray, List.map_cons, List.map_nil, hs, hx, hrun]
  exact h
theorem zeroMsg (w : World) : (zeroValue 48).run Try.prog w = .ok (.agg (mcA Mc.zero)) w := by kernel_rfl
theorem zeroMsg_cells : (Builtin.zeroCells (Value.agg (mcA Mc.zero)).cells 1).toList = (mcA Mc.zero).toList := by kernel_rfl
theorem zeroMsg_cells2 : (Builtin.zeroCells (Value.agg #[.int .u8 0, .int .i64 0, .int .i64 0, .int .u64 0, .int .u64 0, .int .u64 0, .int .u64 0, .int .u64 0, .int .u64 0, .slice none 0 0, .int .u64 0, .int .i64 0]).cells 1).toList = (mcA Mc.zero).toList := by kernel_rfl
/-- clear of one message. -/
theorem wpList_clear_mc {ops : Array Oper} {rest : List Oper} {o : Oper} {a : Act} {w : World} {Q : Exit → Act → World → Prop} (hgd : o.guard = none) (x : Operand) (ho : o.op = .call { callee := .builtin .clear, args := #[x], argTypes := #[60] })
    (g off c : Nat) (hx : a.eval x = .slice (some ⟨g, off, none⟩) 1 c) (cur : Array Value) (t : TypeId) (hg : w.heap[g]? = some (.cells cur t (0, 0))) (fit : off + 12 ≤ cur.size)
    (h : wpList Try.prog ops Q rest (a.put o.dst (.tuple #[])) (w.setRow g (cur.toList.take off ++ (mcA Mc.zero).toList ++ cur.toList.drop (off + 12)).toArray)) : wpList Try.prog ops Q (o :: rest) a w := by
  have hst := run_storeCells_at (P := Try.prog) g off t (mcA Mc.zero).toList 0 cur w hg (by rw [Nat.add_zero]; exact fit) (by decide)
  rw [Nat.add_zero, show (mcA Mc.zero).toList.length = 12 from rfl] at hst
  have hrun : (Builtin.clear_ #[60] o.type #[.slice (some ⟨g, off, none⟩) 1 c]).run Try.prog w = .ok (.tuple #[]) (w.setRow g (cur.toList.take off ++ (mcA Mc.zero).toList ++ cur.toList.drop (off + 12)).toArray) := by
    simp only [Builtin.clear_, run_underlying Try.underlying60, Sem.run_bind, Result.andThen_ok, zeroMsg, zeroMsg_cells]
    simp [zeroMsg]
    rw [zeroMsg_cells2, hst]
    simp
  refine wpList_plain hgd fun _ hK => ?_
  unfold Oper.wp execOp
  simp only [ho, resolve, invoke, builtin, Sem.run_bind, Sem.run_pure, Result.andThen_ok, List.map_toArray, List.map_cons, List.map_nil, hx, hrun]
  exact hK _ _ h
/-- The block behind the append. -/
def delA (cur : Array Value) (i j n : Nat) : Array Value := (cur.toList.take (i * 12) ++ (cur.toList.take (n * 12)).drop (j * 12) ++ cur.toList.drop (i * 12 + (n - j) * 12)).toArray
set_option maxHeartbeats 4000000 in
theorem ndelete_ (g n c i j q : Nat) (hq : q + 1 = n) (hij : i < j) (hj1 : j ≤ i + 1) (hj : j ≤ n) (hnc : n ≤ c) (hc : c ≤ maxLen) (X : List Mc) (hX : X.length = n) (hsl : ∀ x ∈ X, x.sl) (w : World) (cur : Array Value) (hg : Blk w g 48 cur) (hsz : cur.size = c * 12) (htk : cur.toList.take (n * 12) = mcells X) :
    Calls Try.prog 63 #[.slice (some ⟨g, 0, none⟩) n c, .int .i64 (i : Int), .int .i64 (j : Int)] w fun e w' => e = .returned (.slice (some ⟨g, 0, none⟩) q c) ∧ w' = (w.drew.setRow g (delA cur i j n)).setRow g ((delA cur i j n).toList.take (q * 12) ++ (mcA Mc.zero).toList ++ (delA cur i j n).toList.drop (q * 12 + 12)).toArray := by
  have hm1 : c ≤ 9223372036854775807 := hc
  have e1 : ((i : Int) == (j : Int)) = false := by rw [beq_eq_false_iff_ne]; omega
  have hic : i ≤ c := by omega
  have hjc : j ≤ c := by omega
  obtain ⟨A, hA, hsrc⟩ : ∃ A : Addr, (if c = j then (some ⟨g, 0, none⟩ : Option Addr) else some ⟨g, j * 12, none⟩) = some A ∧ Hid (∀ k u, (mcells (X.drop j))[k]? = some u → w.drew.cell? (A.add k) = some u) := by
    have hcell : ∀ k u, (mcells (X.drop j))[k]? = some u → w.drew.cell? ⟨g, j * 12 + k, none⟩ = some u := fun k u hu => by
      have hk : k < (X.drop j).length * 12 := by have := (List.getElem?_eq_some_iff.1 hu).1; rwa [mcells_length] at this
      rw [List.length_drop, hX] at hk
      rw [← mcells_drop X j (by omega), ← htk, List.getElem?_drop, List.getElem?_take_of_lt (by omega), Array.getElem?_toList] at hu
      obtain ⟨q, -⟩ := hg.rules
      exact (q _).trans hu
    by_cases h : c = j
    · refine ⟨⟨g, 0, none⟩, by simp [h], Lib.hid fun k u hu => ?_⟩
      have hk : k < (X.drop j).length * 12 := by have := (List.getElem?_eq_some_iff.1 hu).1; rwa [mcells_length] at this
      rw [List.length_drop, hX] at hk
      omega
    · exact ⟨⟨g, j * 12, none⟩, by simp [h], Lib.hid fun k u hu => by rw [addr_add]; exact hcell k u hu⟩
  have hD : (delA cur i j n) = (cur.toList.take (i * 12) ++ mcells (X.drop j) ++ cur.toList.drop (i * 12 + (n - j) * 12)).toArray := by
    unfold delA; rw [htk, mcells_drop X j (by omega)]
  have hDs : (delA cur i j n).size = c * 12 := by
    rw [hD]
    simp only [List.size_toArray, List.length_append, List.length_take, List.length_drop, Array.length_toList, mcells_length, hsz, hX]
    omega
  have HSL := Lib.hid hsl
  have HG := Lib.hid hg
  have HSZ := Lib.hid hsz
  have HX := Lib.hid hX
  have HD := Lib.hid hD
  have HDS := Lib.hid hDs
  have HG2 := Lib.hid (setRow_heap w.drew g cur (delA cur i j n) 48 (0, 0) hg)
  have hq1 : i + (n - j) = q := by omega
  have hq2 : n - q = 1 := by omega
  have hq3 : q ≤ n := by omega
  have hq4 : n ≤ c := by omega
  have hq5 : ¬ c = q := by omega
  have hq6 : q ≤ c := by omega
  have HQ1 := Lib.hid hq1
  have HQ := Lib.hid hq
  generalize delA cur i j n = D at HD HDS hD hDs HG2 ⊢
  obtain ⟨w2, hw2⟩ : ∃ w2, w.drew.setRow g D = w2 := ⟨_, rfl⟩
  rw [hw2] at HG2 ⊢
  have HW2 := Lib.hid hw2
  clear hw2
  clear hsl hg hsz htk hX hc hD hDs hq1 hq
  go_enter Try.func63, Try.ntmps63
  go_upto_region 5 with fail
  go_region_law (refine step_append_in rfl (.tmp 22) (.tmp 25) rfl g i c cur (HG.out.trans rfl) rfl A (n - j) (c - j) rfl (X.drop j) (by rw [List.length_drop, HX.out]) (fun x hx => HSL.out x (List.mem_of_mem_drop hx)) hsrc.out q HQ1.out (by omega) (by rw [HSZ.out]; omega) ?_; rw [← HD.out, HW2.out])
  all_goals
    go_wp2_with ((refine wpList_clear_mc rfl (.tmp 31) rfl g (q * 12) (c - q) rfl D 48 HG2.out (by rw [HDS.out]; have := HQ.out; omega) ?_))
    go_ret
    exact ⟨rfl, by rw [List.append_assoc]; rfl⟩
/-- slices.Delete of one message: the row is shorter by it, and lies where it lay. -/
theorem ndelete (base n c i : Nat) (A : Option Addr) (hi : i < n) (X : List Mc) (hX : X.length = n) (hsl : ∀ x ∈ X, x.sl) (w : World) (own : w.ownsRow base 48 12 (.slice A n c) n (mcells X)) :
    Calls Try.prog 63 #[.slice A n c, .int .i64 (i : Int), .int .i64 ((i : Int) + 1)] w fun e w' => e = .returned (.slice A (n - 1) c) ∧ w'.ownsRow base 48 12 (.slice A (n - 1) c) (n - 1) (mcells (X.eraseIdx i)) ∧ w.grownBy w' (Value.slice A n c).ownBlock := by
  rcases own.2 with ⟨_, h0⟩ | ⟨g, cap, cur, hv, hb, hg, hnc, hcm, hcs, htk⟩
  · omega
  · injection hv with e1 _ e3
    subst e1 e3
    refine (ndelete_ g n c i (i + 1) (n - 1) (by omega) (by omega) (by omega) (by omega) hnc hcm X hX hsl w cur hg hcs htk).mono ?_
    rintro e w' ⟨rfl, rfl⟩
    have hD : (delA cur i (i + 1) n) = (cur.toList.take (i * 12) ++ mcells (X.drop (i + 1)) ++ cur.toList.drop (i * 12 + (n - (i + 1)) * 12)).toArray := by
      unfold delA; rw [htk, mcells_drop X (i + 1) (by omega)]
    have hDs : (delA cur i (i + 1) n).size = c * 12 := by
      rw [hD]
      simp only [List.size_toArray, List.length_append, List.length_take, List.length_drop, Array.length_toList, mcells_length, hcs, hX]
      omega
    have h1 : cur.toList.take (i * 12) = mcells (X.take i) := by
      rw [← mcells_take X i (by omega), ← htk, List.take_take]
      congr 1
      omega
    have hE : X.eraseIdx i = X.take i ++ X.drop (i + 1) := List.eraseIdx_eq_take_drop_succ X i
    have hEl : (mcells (X.eraseIdx i)).length = (n - 1) * 12 := by
      rw [mcells_length, List.length_eraseIdx_of_lt (by omega), hX]
    have hDt : (delA cur i (i + 1) n).toList.take ((n - 1) * 12) = mcells (X.eraseIdx i) := by
      rw [hD, h1, hE, ← mcells_append, ← hE, ← hEl]
      exact List.take_left
    have hg1 := setRow_heap w.drew g cur (delA cur i (i + 1) n) 48 (0, 0) hg
    refine ⟨rfl, ⟨by rw [hEl], .inr ⟨g, c, _, rfl, hb, setRow_heap _ g _ _ _ _ hg1, by omega, hcm, ?_, ?_⟩⟩, ⟨rfl, rfl, rfl, by simp [World.setRow], fun k hk hne => ?_⟩⟩
    · rw [hDt]
      simp only [List.size_toArray, List.length_append, List.length_drop, Array.length_toList, hDs, hEl]
      show (n - 1) * 12 + 12 + _ = _
      omega
    · rw [hDt, ← hEl, List.append_assoc]
      exact List.take_left
    · have hkg : k ≠ g := fun e => hne (by subst e; rfl)
      rw [setRow_other _ g k _ hkg, setRow_other _ g k _ hkg]
      rfl
end Go.Proofs.Ytnhjphmcdamoaaa
