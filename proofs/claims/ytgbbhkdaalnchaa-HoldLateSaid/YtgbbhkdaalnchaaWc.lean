/-
  The walks of the document's package leatref11: New, NewWorld.
-/
import Derived.Test.YtgbbhkdaalnchaaGS
namespace Go.Proofs.Ytgbbhkdaalnchaa
set_option linter.unusedVariables false
set_option linter.unusedSimpArgs false
open Go.RowKit Go Go.BigFrame
set_option maxRecDepth 100000

def bLed1 (x : Value) : Sem Next := do pure (.value (← Instr.build 46 #[(1, x)]))
section
variable (ρ : Operand → Value) (dst : Option Tmp) (x y : Operand) (ty : TypeId) (pos : String) (after : Array Edge) (guard : Option (Nat × Bool))
@[go_sem ↓ high] theorem execOp_bLed1 : execOp ρ { dst, op := .build 46 #[(1, x)], type := ty, pos, after, guard } = bLed1 (ρ x) := by simp [execOp, bLed1]
@[go_sem ↓ high] theorem execOp_apP : execOp ρ { dst, op := .call { callee := .builtin .append, args := #[x, y], argTypes := #[48, 48] }, type := ty, pos, after, guard } = apd 48 ty (ρ x) (ρ y) := by simp [execOp, apd, resolve, invoke, builtin]
@[go_sem ↓ high] theorem execOp_bs1P : execOp ρ { dst, op := .buildSlice 48 1 #[(0, x)], type := ty, pos, after, guard } = bs1 48 (ρ x) := by simp [execOp, bs1]
end
@[go_sem] theorem run_bLed1 (gt : Nat) (w : World) : (bLed1 (.pointer (some ⟨gt, 0, none⟩))).run Try.prog w = .ok (.value (.agg (ledA (fun _ => false) Vec.zero (.slice none 0 0) (.slice none 0 0) gt nilR))) w := by kernel_rfl
@[go_sem] theorem run_bs1P (p : Nat) (w : World) : (bs1 48 (.pointer (some ⟨p, 0, none⟩))).run Try.prog w = .ok (.value (.slice (some ⟨w.heap.size, 0, none⟩) 1 1)) (w.alloc (.cells #[.pointer (some ⟨p, 0, none⟩)] 47)) := by kernel_rfl
theorem infoPt : (Try.prog.info? 47).map (fun i => (i.zero, i.size, i.bytes)) = some (some (.pointer none), 1, 8) := by kernel_rfl
section
variable {w w' : World} {base B g gt : Nat} {v : Value} {A : Option Addr} {cap : Nat} (ty : TypeId)
theorem RowP.app {L M : List (Nat × Vec)} (h : RowP w base v L) (hr : Rd w B 1 A M.length (flat ptA M)) (hn : L.length + M.length ≤ 1000000) (hbase : base ≤ w.heap.size) :
    ∃ v' w', (apd 48 ty v (.slice A M.length cap)).run Try.prog w = .ok (.value v') w' ∧ RowP w' base v' (L ++ M) ∧ Kt base [47] w w' := by
  obtain ⟨i0, hi, a1, a2, a3⟩ := info_parts infoPt
  obtain ⟨v', w', k1, k2, k3, _⟩ := Row.app w 48 ty i0 _ 8 Try.underlying48 hi a1 a2 a3 rfl (by decide) ptA_size ptA_cell h (cap := cap) hr hn (by decide) hbase
  exact ⟨v', w', k1, k2, k3⟩
/-- A ledger in which nothing stands. -/
theorem led_new {inn : Nat → Bool} (hb : Blk w g 46 (ledA inn Vec.zero (.slice none 0 0) (.slice none 0 0) gt nilR)) (ht : Blk w gt 106 #[(.slice none 0 0)]) : LedK w g Vec.zero :=
  ⟨inn, _, _, gt, (.slice none 0 0), nilR, [], [], [], fun _ => [], ⟨hb, Nat.zero_le _, ⟨ht, Row.nil, Nat.zero_le _⟩, Row.nil, Row.nil, fun _ _ => Row.nil, fun _ _ _ _ _ => .inl rfl⟩,
    ⟨⟨fun _ => 0, by simp, by simp, by simp⟩, rfl, by simp, by simp, by simp, by simp, by simp⟩⟩
def NewPost (w : World) (r : Ending) (w' : World) : Prop := ∃ g, r = .returned (.tuple #[.pointer (some ⟨g, 0, none⟩), .int .i64 0]) ∧ LedK w' g Vec.zero ∧ Below w.heap.size w w'
theorem lnew (n : Nat) (h1 : 1 ≤ n) (h6 : n ≤ 6) (w : World) : Calls Try.prog 40 #[.int .i64 n] w (NewPost w) := by
  have d1 : decide ((n : Int) < 1) = false := by simp; omega
  have d2 : decide ((6 : Int) < (n : Int)) = false := by simp; omega
  go_enter Try.func40, Try.ntmps40
  go_upto_region 4 with fail
  have bL : Blk ((w.alloc (.cells #[(.slice none 0 0)] 106)).alloc (.cells (ledA (fun _ => false) Vec.zero (.slice none 0 0) (.slice none 0 0) w.heap.size nilR) 46)) (w.heap.size + 1) 46 (ledA (fun _ => false) Vec.zero (.slice none 0 0) (.slice none 0 0) w.heap.size nilR) := Blk.new_at (by simp) rfl
  have bT : Blk ((w.alloc (.cells #[(.slice none 0 0)] 106)).alloc (.cells (ledA (fun _ => false) Vec.zero (.slice none 0 0) (.slice none 0 0) w.heap.size nilR) 46)) w.heap.size 106 #[(.slice none 0 0)] := (Blk.new _ _ _).alloc _
  have hb : Below w.heap.size w ((w.alloc (.cells #[(.slice none 0 0)] 106)).alloc (.cells (ledA (fun _ => false) Vec.zero (.slice none 0 0) (.slice none 0 0) w.heap.size nilR) 46)) := ((Below.refl _ _).alloc (Nat.le_refl _) _).alloc (by simp) _
  have Y := Lib.hid (And.intro bL (And.intro bT hb))
  clear bL bT hb
  generalize (w.alloc _).alloc _ = W at Y ⊢
  go_wp2_with fail
  go_loopw [5] (fun s wr => ∃ (k : Nat) (inn : Nat → Bool), k ≤ n ∧ s = .int .i64 k ∧ Blk wr (w.heap.size + 1) 46 (ledA inn Vec.zero (.slice none 0 0) (.slice none 0 0) w.heap.size nilR) ∧ Blk wr w.heap.size 106 #[(.slice none 0 0)] ∧ Below w.heap.size w wr) (fun s _ => n - (intOf s).toNat)
  case atStart => exact ⟨0, _, by omega, rfl, Y.out.1, Y.out.2.1, Y.out.2.2⟩
  case round =>
    obtain ⟨k, inn, hk, rfl, bL, bT, hb⟩ := hrel
    clear Y
    by_cases hlt : k < n
    · have dk : decide ((k : Int) < (n : Int)) = true := by simp; omega
      obtain ⟨q, f⟩ := bL.rules
      have c1 := ledA_in inn Vec.zero (.slice none 0 0) (.slice none 0 0) w.heap.size nilR k (by omega)
      have lL := bL.lt
      have k0 : (0 : Int) ≤ (k : Int) := by omega
      have k6 : (k : Int) < 6 := by omega
      have bL2 := bL.set_ k (.bool true)
      rw [ledA_set_in _ _ _ _ _ _ k (by omega)] at bL2
      have Y := Lib.hid (And.intro bL2 (And.intro (bT.far (p := ⟨w.heap.size + 1, k, none⟩) (by simp) (.bool true)) (hb.setCell (p := ⟨w.heap.size + 1, k, none⟩) (by simp) (.bool true))))
      clear bL bT hb bL2
      go_wp2_with fail
      go_roundw
      case rel => exact ⟨k + 1, _, by omega, by go_num, Y.out.1, Y.out.2.1, Y.out.2.2⟩
      case measure => simp [intOf]; omega
    · have dk : decide ((k : Int) < (n : Int)) = false := by simp; omega
      have Y := Lib.hid (And.intro bL (And.intro bT hb))
      clear bL bT hb
      go_wp2_with fail
      go_ret2
      exact ⟨_, rfl, led_new Y.out.1 Y.out.2.1, Y.out.2.2⟩
end
section
variable {w w' : World} {base gw : Nat} {vL vA : Value} {ls : List (Nat × Vec)} {all : List Ev} {ts : List TypeId}
theorem LedK.kt {g : Nat} {kn : Vec} (h : LedK w g kn) (K : Kt base ts w w') (h1 : 46 ∉ ts) (h2 : 106 ∉ ts) (h3 : 136 ∉ ts) (h4 : 112 ∉ ts) (h5 : 130 ∉ ts) (h6 : 28 ∉ ts) : LedK w' g kn := by
  obtain ⟨a1, a2, a3, a4, a5, a6, a7, a8, a9, a10, hL, hO⟩ := h
  exact ⟨a1, a2, a3, a4, a5, a6, a7, a8, a9, a10, ⟨K.blk _ _ _ hL.blk h1, hL.ge, ⟨K.blk _ _ _ hL.tre.blk h2, K.row hL.tre.row h3, hL.tre.ge⟩, K.row hL.rn h4, K.row hL.rg h5, fun k hk => K.row (hL.rr k hk) h6, hL.apart⟩, hO⟩
/-- So many new regions. -/
def zeros (gs : List Nat) : List (Nat × Vec) := gs.map fun g => (g, Vec.zero)
def NewWPost (n : Nat) (w : World) (r : Ending) (w' : World) : Prop := ∃ gw vL gs, r = .returned (.pointer (some ⟨gw, 0, none⟩)) ∧ Wld w' w.heap.size gw vL (.slice none 0 0) (zeros gs) [] ∧ gs.length = n ∧ Below w.heap.size w w'
set_option maxHeartbeats 1000000 in
theorem wnew (n : Nat) (h1 : 1 ≤ n) (h6 : n ≤ 6) (w : World) : Calls Try.prog 11 #[.int .i64 n] w (NewWPost n w) := by
  have CN := Lib.hid (fun W => lnew n h1 h6 W)
  have d0 : (0 : Int) ≤ (n : Int) := by omega
  go_enter Try.func11, Try.ntmps11
  go_upto_region 2 with fail
  have Y := Lib.hid (And.intro (show Wld (w.alloc (.cells #[(.slice none 0 0), (.slice none 0 0)] 51)) w.heap.size w.heap.size (.slice none 0 0) (.slice none 0 0) (zeros []) [] from ⟨Blk.new _ _ _, Nat.le_refl _, Row.nil, Row.nil, by simp [zeros]⟩) ((Below.refl w.heap.size w).alloc (Nat.le_refl _) (.cells #[(.slice none 0 0), (.slice none 0 0)] 51)))
  generalize w.alloc _ = W at Y ⊢
  go_wp2_with fail
  go_loopw [4] (fun s wr => ∃ (vL : Value) (gs : List Nat), gs.length ≤ n ∧ s = .int .i64 gs.length ∧ Wld wr w.heap.size w.heap.size vL (.slice none 0 0) (zeros gs) [] ∧ Below w.heap.size w wr) (fun s _ => n - (intOf s).toNat)
  case atStart => exact ⟨(.slice none 0 0), [], by simp, rfl, Y.out.1, Y.out.2⟩
  case round =>
    obtain ⟨vL, gs, hk, rfl, hW, hb⟩ := hrel
    clear Y
    by_cases hlt : gs.length < n
    · have dk : decide ((gs.length : Int) < (n : Int)) = true := by simp; omega
      have Y := Lib.hid (And.intro hW hb)
      clear hW hb
      go_wp2_with fail
      refine (CN.out _).mono ?_
      rintro r w1 ⟨g, rfl, hL1, hb1⟩
      have hW1 := Y.out.1.call hb1
      have hbw := Y.out.2.trans (hb1.mono Y.out.2.size)
      clear Y
      obtain ⟨Av, cv, rfl, -, -⟩ := hW1.rl.sl
      have hB : Below w1.heap.size w1 (w1.alloc (.cells #[.pointer (some ⟨g, 0, none⟩)] 47)) := (Below.refl _ _).alloc (Nat.le_refl _) _
      have hone : Rd (w1.alloc (.cells #[.pointer (some ⟨g, 0, none⟩)] 47)) (w1.heap.size + 1) 1 (some ⟨w1.heap.size, 0, none⟩) [((g, Vec.zero) : Nat × Vec)].length (flat ptA [((g, Vec.zero) : Nat × Vec)]) := rd_one ptA_size (x := ((g, Vec.zero) : Nat × Vec)) (Blk.new w1 47 (ptA (g, Vec.zero)))
      obtain ⟨v2, W2, happ, row2, K2⟩ := RowP.app (cap := 1) 48 (hW1.rl.call hB) hone (by simp [zeros]; omega) (Nat.le_trans hbw.size hB.size)
      have e : zeros gs ++ [((g, Vec.zero) : Nat × Vec)] = zeros (gs ++ [g]) := by simp [zeros]
      rw [e] at row2
      obtain ⟨A2, c2, rfl, -, -⟩ := row2.sl
      simp only [List.length_singleton] at happ
      have lz1 : (zeros gs).length = gs.length := by simp [zeros]
      have lz2 : (zeros (gs ++ [g])).length = gs.length + 1 := by simp [zeros]
      rw [lz1] at hW1 happ
      rw [lz2] at row2 happ
      have bw2 := K2.blk _ _ _ (hW1.blk.call hB) (by decide)
      have bw3 := bw2.set_ 0 (.slice A2 (gs.length + 1) c2)
      have KS : Kt w.heap.size [51] W2 (W2.setCell ⟨w.heap.size, 0, none⟩ (.slice A2 (gs.length + 1) c2)) := Kt.setCell bw2 (by simp) (Nat.le_refl _) 0 _
      have row3 := KS.row row2 (by decide)
      have hb3 := (hbw.trans (hB.mono hbw.size)).trans (K2.below.trans KS.below)
      have led3 : ∀ p ∈ zeros (gs ++ [g]), LedK (W2.setCell ⟨w.heap.size, 0, none⟩ (.slice A2 (gs.length + 1) c2)) p.1 p.2 := fun p hp => by
        have h0 : LedK w1 p.1 p.2 := by
          simp only [zeros, List.map_append, List.mem_append, List.map_cons, List.map_nil, List.mem_singleton] at hp
          rcases hp with hp | rfl
          · exact hW1.led p hp
          · exact hL1
        exact ((h0.call hB).kt K2 (by decide) (by decide) (by decide) (by decide) (by decide) (by decide)).kt KS (by decide) (by decide) (by decide) (by decide) (by decide) (by decide)
      have Z := Lib.hid (And.intro (show Wld (W2.setCell ⟨w.heap.size, 0, none⟩ (.slice A2 (gs.length + 1) c2)) w.heap.size w.heap.size (.slice A2 (gs.length + 1) c2) (.slice none 0 0) (zeros (gs ++ [g])) [] from ⟨bw3, Nat.le_refl _, row3, Row.nil, led3⟩) hb3)
      obtain ⟨q1, f1⟩ := hW1.blk.rules
      obtain ⟨q2, f2⟩ := bw2.rules
      have l1 := hW1.blk.lt
      have l2 := bw2.lt
      clear hW1 hL1 hb1 hbw hB hone row2 K2 bw2 bw3 KS row3 hb3 led3 e lz1 lz2
      go_wp2_with fail
      go_roundw
      case rel => exact ⟨_, gs ++ [g], by simp; omega, by simp, Z.out.1, Z.out.2⟩
      case measure => simp [intOf]; omega
    · obtain rfl : gs.length = n := by omega
      have dk : decide ((gs.length : Int) < (gs.length : Int)) = false := by simp
      have Y := Lib.hid (And.intro hW hb)
      clear hW hb
      go_wp2_with fail
      go_ret
      exact ⟨_, vL, gs, rfl, Y.out.1, rfl, Y.out.2⟩
end
end Go.Proofs.Ytgbbhkdaalnchaa
