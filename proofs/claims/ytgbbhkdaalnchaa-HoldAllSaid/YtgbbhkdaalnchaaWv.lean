/-
  The walk of the document's package leatref11: World.Event.
-/
import Derived.Test.YtgbbhkdaalnchaaGS
namespace Go.Proofs.Ytgbbhkdaalnchaa
set_option linter.unusedVariables false
set_option linter.unusedSimpArgs false
open Go.RowKit Go Go.BigFrame
set_option maxRecDepth 100000

section
variable {w w' : World} {base gw : Nat} {vL vA : Value} {ls : List (Nat × Vec)} {all : List Ev}
/-- What Event answers: an event of the region, of what it knows. -/
def EventPost (o : Nat) (kn : Vec) (w : World) (r : Ending) (w' : World) : Prop := ∃ e : Ev, r = .returned (.agg (evA e)) ∧ e.ok ∧ e.o = (o : Int) + 1 ∧ e.s = kn.get o + 1 ∧ e.d = kn ∧ Below w.heap.size w w'
set_option maxHeartbeats 4000000 in
theorem wevent (h : Wld w base gw vL vA ls all) (x : Ac) (hx : x.ok) (hn : 0 < ls.length) (h6 : ls.length ≤ 6) (p : Nat × Vec) (hp : ls[x.w % ls.length]? = some p) (hkn : ∀ r, r < 6 → 0 ≤ p.2.get r ∧ p.2.get r ≤ 1000) :
    Calls Try.prog 42 #[.pointer (some ⟨gw, 0, none⟩), .agg (acA x)] w (EventPost (x.w % ls.length) p.2 w) := by
  obtain ⟨gl, cl, rfl, hcl, hml, hgl, lgl⟩ := h.rl.sl_pos hn
  unfold maxLen at hml
  have T0 : Trk w _ [(w.heap.size + 1, 32, evA Ev.zero), (w.heap.size, 36, acA x)] := ((Trk.nil w).push (t := 36) (cs := acA x) rfl).push (t := 32) (cs := evA Ev.zero) (g := w.heap.size + 1) (by simp)
  have HH := Lib.hid h
  have HX := Lib.hid hx
  have HT := Lib.hid T0
  obtain ⟨q1, -, q0, -, -⟩ := T0.rules
  obtain ⟨l1, l0, -⟩ := T0.lts
  have hW := h.call T0.below
  obtain ⟨q, -⟩ := hW.blk.rules
  have lg := hW.blk.lt
  have ho := Nat.mod_lt x.w hn
  obtain ⟨ls', hls⟩ : ∃ n, ls.length = n := ⟨_, rfl⟩
  rw [hls] at ho h6 hn hp q HH hcl ⊢
  obtain ⟨o, hoe⟩ : ∃ o, x.w % ls' = o := ⟨_, rfl⟩
  rw [hoe] at ho hp ⊢
  have ht : Int.tmod (x.w : Int) (ls' : Int) = (o : Int) := by rw [← hoe]; rfl
  have hxw : (x.w : Int) ≤ 255 := by have := HX.out.w; omega
  have HLS := Lib.hid (And.intro hls hoe)
  have HP := Lib.hid hp
  have o0 : (0 : Int) ≤ (o : Int) := by omega
  have o6 : (o : Int) < 6 := by omega
  clear h hx T0 hls hoe hW hp hgl
  go_enter Try.func42, Try.ntmps42
  go_upto_region 1 with fail
  go_quiet (fail)
  have HT1 := Lib.hid (HT.out.drewN nq)
  have hgz : w.heap.size + 1 + 1 = ((w.alloc (.cells (acA x) 36)).alloc (.cells (evA Ev.zero) 32)).heap.size := by simp
  generalize ((w.alloc _).alloc _).drewN nq = W1 at HT1 ⊢
  clear q q0 q1 l0 l1 lg HT ht hgz
  have hW := HH.out.call HT1.out.below
  obtain ⟨q, -⟩ := hW.blk.rules
  have hp0 := hW.rl.rng ptA_size HP.out 0 (.pointer (some ⟨p.1, 0, none⟩)) rfl
  have hp1 : W1.cell? ⟨gl, o, none⟩ = some (.pointer (some ⟨p.1, 0, none⟩)) := by rw [show o * 1 + 0 = o from by omega] at hp0; exact hp0
  obtain ⟨inn, vn, vg, gt, vl, vr, ns, gs, t, rs, hL, hO⟩ := hW.led p (List.mem_of_getElem? HP.out)
  obtain ⟨An, cn, rfl, hcn, hmn⟩ := hL.rn.sl
  unfold maxLen at hmn
  obtain ⟨gk, kn⟩ := p
  dsimp only at hp1 hL hO hkn ⊢
  obtain ⟨q2, -⟩ := hL.blk.rules
  have ck := ledA_kn inn kn (.slice An ns.length cn) vg gt vr o (by omega)
  obtain ⟨q1, -, q0, -, -⟩ := HT1.out.rules
  obtain ⟨l1, l0, -⟩ := HT1.out.lts
  have lg := hW.blk.lt
  have ll := hL.blk.lt
  have lgl1 : gl < W1.heap.size := Nat.lt_of_lt_of_le lgl HT1.out.below.size
  obtain ⟨hk0, hk1⟩ := hkn o (by omega)
  have HKN := Lib.hid hkn
  have HLL := Lib.hid (And.intro hL hO)
  clear hp0 hL hO hkn hW
  obtain ⟨kv, hkv⟩ : ∃ kv, x.k % 7 = kv := ⟨_, rfl⟩
  have hkv7 : kv < 7 := by rw [← hkv]; omega
  have hk7 : (x.k : Int) % 7 = (kv : Int) := by rw [← hkv]; rfl
  have HKV := Lib.hid hkv
  clear hkv
  go_upto_region 3 with fail
  go_region
  have HT2 := Lib.hid (HT1.out.push (t := 32) (cs := evA (⟨(o : Int) + 1, kn.get o + 1, kn, 1 + (kv : Int), 0, 0, 0, 0, 0⟩ : Ev)) rfl).drew
  have hge : w.heap.size ≤ W1.heap.size := HT1.out.below.size
  generalize hW2 : (W1.alloc _).drew = W2 at HT2 ⊢
  have HB2 := Lib.hid (show Below W1.heap.size W1 W2 from by rw [← hW2]; exact ((Below.refl _ _).alloc (Nat.le_refl _) _).drew)
  clear hW2
  have HL2 := Lib.hid (HLL.out.1.call HB2.out)
  have HLT := Lib.hid (show w.heap.size + 1 < W1.heap.size from HT1.out.lt)
  generalize W1.heap.size = ge at HT2 HB2 HLT hge ⊢
  clear q q0 q1 q2 l0 l1 lg ll lgl1 hp1 ck hk0 hk1 hk7
  have hL2 := HL2.out
  obtain ⟨q2, -⟩ := hL2.blk.rules
  have ll := hL2.blk.lt
  clear hL2
  go_upto_if 51 with (fail)
  go_cut [8] (fun s8 wx => ∃ nv : Int, s8 = .int .u64 nv ∧ (0 ≤ nv ∧ nv ≤ 18446744073709551615) ∧ Trk w wx [(ge, 32, evA (⟨(o : Int) + 1, kn.get o + 1, kn, 1 + (kv : Int), 0, 0, 0, 0, 0⟩ : Ev)), (w.heap.size + 1, 32, evA Ev.zero), (w.heap.size, 36, acA x)])
  case first =>
    by_cases hz : 0 < ns.length
    · have hd : decide (0 < ns.length) = true := decide_eq_true hz
      obtain ⟨ms, hms⟩ : ∃ m, x.n % ns.length = m := ⟨_, rfl⟩
      have hml2 : ms < ns.length := by rw [← hms]; exact Nat.mod_lt _ hz
      obtain ⟨y, hy⟩ : ∃ y, ns[ms]? = some y := ⟨ns[ms], List.getElem?_eq_getElem hml2⟩
      have hL2 := HL2.out
      obtain ⟨gn, cn2, e0, -, -, -, lgn⟩ := hL2.rn.sl_pos hz
      injection e0 with e1 e2 e3
      subst e1; subst e3
      have hid : W2.cell? ⟨gn, ms * 56, none⟩ = some (.int .u64 y.id) := hL2.rn.rng ndA_size hy 0 _ (ndA_0 y)
      have hxn : (x.n : Int) ≤ 255 := by have := HX.out.n; omega
      have hns : ns.length ≤ 32 := by have := HLL.out.2.len; have := HLL.out.2.l32; omega
      have HR := Lib.hid (HLL.out.2.rng y (List.mem_of_getElem? hy))
      have ht : Int.tmod (x.n : Int) (ns.length : Int) = (ms : Int) := by rw [← hms]; rfl
      obtain ⟨-, -, -, -, q0, -, -⟩ := HT2.out.rules
      obtain ⟨-, -, l0, -⟩ := HT2.out.lts
      clear hms hy hL2 e2
      go_upto_region 6 with fail
      go_quiet (fail)
      go_wp2_with fail
      go_meet
      exact ⟨y.id, rfl, HR.out, HT2.out.drewN _⟩
    · have hd : decide (0 < ns.length) = false := decide_eq_false hz
      go_wp2_with fail
      go_meet
      exact ⟨0, rfl, by omega, HT2.out⟩
  case rest =>
    obtain ⟨nv, rfl, hnv, T⟩ := hcut
    clear q2 ll hml hcl hn h6 ho hxw hcn hmn
    have hxn : (x.n : Int) ≤ 255 := by have := HX.out.n; omega
    have hxa : (x.a : Int) ≤ 65535 := by have := HX.out.a; omega
    have hxr : (x.r : Int) ≤ 255 := by have := HX.out.r; omega
    have hxf : (x.f : Int) ≤ 255 := by have := HX.out.f; omega
    have hxt : (x.t : Int) ≤ 255 := by have := HX.out.t; omega
    obtain ⟨m6, hm6⟩ : ∃ m, x.t % 6 = m := ⟨_, rfl⟩
    have hm6' : m6 < 6 := by rw [← hm6]; exact Nat.mod_lt _ (by decide)
    have ht6 : Int.tmod (x.t : Int) 6 = (m6 : Int) := by rw [← hm6]; rfl
    obtain ⟨bn, hbn⟩ : ∃ b, ((x.n : Int) % 2 == 1) = b := ⟨_, rfl⟩
    obtain ⟨kz, hkz⟩ : ∃ z : Int, 1 + (kv : Int) = z := ⟨_, rfl⟩
    rw [hkz] at T
    have hz : kz = 1 ∨ kz = 2 ∨ kz = 3 ∨ kz = 4 ∨ kz = 5 ∨ kz = 6 ∨ kz = 7 := by omega
    clear hkz
    have HZ := Lib.hid hz
    obtain ⟨q2, f2, q1, -, q0, -, -⟩ := T.rules
    obtain ⟨l2, l1, l0, -⟩ := T.lts
    have HT3 := Lib.hid T
    have hlt1 := HLT.out
    have hne1 : ge ≠ w.heap.size := by omega
    have hne2 : ge ≠ w.heap.size + 1 := by omega
    have hne3 : w.heap.size ≠ ge := by omega
    have hne4 : w.heap.size + 1 ≠ ge := by omega
    have HT6 := Lib.hid ht6
    have HBN := Lib.hid hbn
    clear ht6 hbn hz
    clear hm6 T HT2 HL2
    go_upto_block 0 with fail
    go_cut [72] (fun s72 wx => ∃ e' : Ev, e'.ok ∧ e'.o = (o : Int) + 1 ∧ e'.s = kn.get o + 1 ∧ e'.d = kn ∧ Trk w wx [(ge, 32, evA e'), (w.heap.size + 1, 32, evA Ev.zero), (w.heap.size, 36, acA x)])
    case first =>
      rcases HZ.out with rfl | rfl | rfl | rfl | rfl | rfl | rfl
      · have hbn := HBN.out
        rcases (show bn = true ∨ bn = false from by cases bn <;> simp) with rfl | rfl
        ·
          go_wp2_with fail
          go_meet
          have hkn0 := HKN.out
          exact ⟨(⟨(o : Int) + 1, kn.get o + 1, kn, 1, nv, 0, (x.a : Int), 0, 0⟩ : Ev), ⟨by simp; omega, by have := hkn0 o (by omega); simp; omega, fun r hr => by have := hkn0 r hr; simp; omega, by simp, by simp <;> omega, by simp <;> omega, by simp <;> omega, by simp <;> omega, by simp <;> omega⟩, rfl, rfl, rfl, ((HT3.out.set_ hge ⟨hne4, hne3, trivial⟩ 9 (.int .u64 (nv))).set_ hge ⟨hne4, hne3, trivial⟩ 11 (.int .i64 ((x.a : Int))))⟩
        ·
          go_wp2_with fail
          go_meet
          have hkn0 := HKN.out
          exact ⟨(⟨(o : Int) + 1, kn.get o + 1, kn, 1, 0, 0, (x.a : Int), 0, 0⟩ : Ev), ⟨by simp; omega, by have := hkn0 o (by omega); simp; omega, fun r hr => by have := hkn0 r hr; simp; omega, by simp, by simp <;> omega, by simp <;> omega, by simp <;> omega, by simp <;> omega, by simp <;> omega⟩, rfl, rfl, rfl, (HT3.out.set_ hge ⟨hne4, hne3, trivial⟩ 11 (.int .i64 ((x.a : Int))))⟩
      ·
        go_wp2_with fail
        go_meet
        have hkn0 := HKN.out
        exact ⟨(⟨(o : Int) + 1, kn.get o + 1, kn, 2, nv, 0, (x.a : Int) + 1, 0, 0⟩ : Ev), ⟨by simp; omega, by have := hkn0 o (by omega); simp; omega, fun r hr => by have := hkn0 r hr; simp; omega, by simp, by simp <;> omega, by simp <;> omega, by simp <;> omega, by simp <;> omega, by simp <;> omega⟩, rfl, rfl, rfl, ((HT3.out.set_ hge ⟨hne4, hne3, trivial⟩ 9 (.int .u64 (nv))).set_ hge ⟨hne4, hne3, trivial⟩ 11 (.int .i64 ((x.a : Int) + 1)))⟩
      ·
        go_wp2_with fail
        go_meet
        have hkn0 := HKN.out
        exact ⟨(⟨(o : Int) + 1, kn.get o + 1, kn, 3, nv, 0, (x.a : Int) + 1, (x.r : Int) + 1, 0⟩ : Ev), ⟨by simp; omega, by have := hkn0 o (by omega); simp; omega, fun r hr => by have := hkn0 r hr; simp; omega, by simp, by simp <;> omega, by simp <;> omega, by simp <;> omega, by simp <;> omega, by simp <;> omega⟩, rfl, rfl, rfl, (((HT3.out.set_ hge ⟨hne4, hne3, trivial⟩ 9 (.int .u64 (nv))).set_ hge ⟨hne4, hne3, trivial⟩ 11 (.int .i64 ((x.a : Int) + 1))).set_ hge ⟨hne4, hne3, trivial⟩ 12 (.int .u64 ((x.r : Int) + 1)))⟩
      ·
        go_wp2_with fail
        go_meet
        have hkn0 := HKN.out
        exact ⟨(⟨(o : Int) + 1, kn.get o + 1, kn, 4, 0, 0, 0, (x.r : Int) + 1, (x.f : Int) + 1⟩ : Ev), ⟨by simp; omega, by have := hkn0 o (by omega); simp; omega, fun r hr => by have := hkn0 r hr; simp; omega, by simp, by simp <;> omega, by simp <;> omega, by simp <;> omega, by simp <;> omega, by simp <;> omega⟩, rfl, rfl, rfl, ((HT3.out.set_ hge ⟨hne4, hne3, trivial⟩ 12 (.int .u64 ((x.r : Int) + 1))).set_ hge ⟨hne4, hne3, trivial⟩ 13 (.int .u64 ((x.f : Int) + 1)))⟩
      · have ht6 := HT6.out
        go_wp2_with fail
        go_meet
        have hkn0 := HKN.out
        exact ⟨(⟨(o : Int) + 1, kn.get o + 1, kn, 5, nv, 1 + (m6 : Int), (x.a : Int) + 1, 0, 0⟩ : Ev), ⟨by simp; omega, by have := hkn0 o (by omega); simp; omega, fun r hr => by have := hkn0 r hr; simp; omega, by simp, by simp <;> omega, by simp <;> omega, by simp <;> omega, by simp <;> omega, by simp <;> omega⟩, rfl, rfl, rfl, (((HT3.out.set_ hge ⟨hne4, hne3, trivial⟩ 9 (.int .u64 (nv))).set_ hge ⟨hne4, hne3, trivial⟩ 11 (.int .i64 ((x.a : Int) + 1))).set_ hge ⟨hne4, hne3, trivial⟩ 10 (.int .i64 (1 + (m6 : Int))))⟩
      · have ht6 := HT6.out
        go_wp2_with fail
        go_meet
        have hkn0 := HKN.out
        exact ⟨(⟨(o : Int) + 1, kn.get o + 1, kn, 6, 0, 1 + (m6 : Int), 0, 0, 0⟩ : Ev), ⟨by simp; omega, by have := hkn0 o (by omega); simp; omega, fun r hr => by have := hkn0 r hr; simp; omega, by simp, by simp <;> omega, by simp <;> omega, by simp <;> omega, by simp <;> omega, by simp <;> omega⟩, rfl, rfl, rfl, (HT3.out.set_ hge ⟨hne4, hne3, trivial⟩ 10 (.int .i64 (1 + (m6 : Int))))⟩
      ·
        go_wp2_with fail
        go_meet
        have hkn0 := HKN.out
        exact ⟨(⟨(o : Int) + 1, kn.get o + 1, kn, 7, 0, 0, 0, 0, 0⟩ : Ev), ⟨by simp; omega, by have := hkn0 o (by omega); simp; omega, fun r hr => by have := hkn0 r hr; simp; omega, by simp, by simp <;> omega, by simp <;> omega, by simp <;> omega, by simp <;> omega, by simp <;> omega⟩, rfl, rfl, rfl, HT3.out⟩
    case rest =>
      obtain ⟨e', hok, ho1, hs1, hd1, T9⟩ := hcut
      have HOK := Lib.hid (And.intro hok (And.intro ho1 (And.intro hs1 hd1)))
      clear HT3 q2 f2 q1 q0 l2 l1 l0 hok ho1 hs1 hd1
      obtain ⟨q2, -, q1, f1, -, -, -⟩ := T9.rules
      obtain ⟨l2, l1, -, -⟩ := T9.lts
      have T10 := (T9.perm (cs := [(w.heap.size + 1, 32, evA Ev.zero), (ge, 32, evA e')]) (by simp)).setEv (by omega) ⟨hne2, trivial⟩ e'
      have HT10 := Lib.hid T10
      clear T9 T10
      clear hkv7 hnv hxn hxa hxr hxf hxt hm6' hne1 hne3 hne4 o0 o6 hge
      go_wp2_with fail
      exact bodyPost_ret (v := .agg (evA e')) (results_ev (s := 4) (by kernel_rfl) _ (w.heap.size + 1) e' _ rfl (HT10.out.blk _ _ _ List.mem_cons_self)) rfl ⟨e', rfl, HOK.out.1, HOK.out.2.1, HOK.out.2.2.1, HOK.out.2.2.2, HT10.out.below⟩
end
end Go.Proofs.Ytgbbhkdaalnchaa
