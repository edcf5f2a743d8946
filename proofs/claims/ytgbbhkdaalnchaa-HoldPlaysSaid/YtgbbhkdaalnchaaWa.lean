/-
  The walk of the document's package leatref11: learn.
-/
import Derived.Test.YtgbbhkdaalnchaaLa
import Derived.Test.YtgbbhkdaalnchaaGV
namespace Go.Proofs.Ytgbbhkdaalnchaa
set_option linter.unusedVariables false
set_option linter.unusedSimpArgs false
open Go.RowKit Go Go.BigFrame
set_option maxRecDepth 100000

/-- A ledger that knows so much. -/
def LedK (w : World) (g : Nat) (kn : Vec) : Prop := LedAt w 0 g kn (sumV kn)
section
variable {w w' : World} {g : Nat} {kn : Vec} {all : List Ev}
theorem LedK.call (h : LedK w g kn) (hb : Below w.heap.size w w') : LedK w' g kn := by
  obtain ⟨a1, a2, a3, a4, a5, a6, a7, a8, a9, a10, hL, hO⟩ := h
  exact ⟨a1, a2, a3, a4, a5, a6, a7, a8, a9, a10, hL.call hb, hO⟩
/-- What Apply answers, of a ledger that knows some of these events. -/
def ApplyK (g : Nat) (kn : Vec) (e : Ev) (w : World) (r : Ending) (w' : World) : Prop :=
  ∃ (g' : Nat) (n : Int) (kn' : Vec), r = .returned (.tuple #[.pointer (some ⟨g', 0, none⟩), .int .i64 n]) ∧ Below w.heap.size w w' ∧ LedK w' g' kn' ∧ ((n ≠ 0 ∧ g' = g ∧ kn' = kn) ∨ (n = 0 ∧ readyB kn e = true ∧ ∃ k : Nat, k < 6 ∧ e.o = (k : Int) + 1 ∧ kn' = kn.set k (kn.get k + 1)))
theorem lapply (h : LedK w g kn) (hf : Fits all kn) (hl : all.length ≤ 100) (e : Ev) (ho : e.ok) : Calls Try.prog 43 #[.pointer (some ⟨g, 0, none⟩), .agg (evA e)] w (ApplyK g kn e w) := by
  obtain ⟨hk, hb⟩ := hf.ok (by omega)
  have hs := sumV_le hf
  have h0 := h
  obtain ⟨a1, a2, a3, a4, a5, a6, a7, a8, a9, a10, hL, hO⟩ := h
  have conv : ∀ r w', ApplyPost g kn (sumV kn) e w r w' → ApplyK g kn e w r w' := fun r w' ⟨g', n, e1, e2, e3⟩ => by
    rcases e3 with ⟨hn, rfl⟩ | ⟨hn, hr, k, hk6, hek, b1, b2, b3, b4, b5, b6, b7, b8, b9, b10, hL', hO'⟩
    · exact ⟨g', n, kn, e1, e2, h0.call e2, .inl ⟨hn, rfl, rfl⟩⟩
    · exact ⟨g', n, _, e1, e2, ⟨b1, b2, b3, b4, b5, b6, b7, b8, b9, b10, hL'.lower (Nat.zero_le _), by rw [sumV_step kn k hk6 fun r hr => (hf r hr).1]; exact hO'⟩, .inr ⟨hn, hr, k, hk6, hek, rfl⟩⟩
  cases hr : readyB kn e with
  | true => exact (lapply_yes hL hO hk (fun r hr => by have := hb r hr; omega) e ho hr (by omega)).mono conv
  | false => exact (lapply_not hL hk e ho hr).mono conv
/-- What learn answers: a ledger that knows no less. -/
def LearnPost (all : List Ev) (kn : Vec) (w : World) (r : Ending) (w' : World) : Prop :=
  ∃ (g' : Nat) (kn' : Vec), r = .returned (.pointer (some ⟨g', 0, none⟩)) ∧ Below w.heap.size w w' ∧ LedK w' g' kn' ∧ Fits all kn' ∧ ∀ r, r < 6 → kn.get r ≤ kn'.get r
set_option maxHeartbeats 4000000 in
theorem rlearn (h : LedK w g kn) (hf : Fits all kn) (hM : Made all) (hl : all.length ≤ 100) {A : Option Addr} {cap : Nat} (hE : ERows w w.heap.size A all) (hcap : all.length ≤ cap) (hmax : cap ≤ maxLen) (most : Vec) :
    Calls Try.prog 41 #[.pointer (some ⟨g, 0, none⟩), .slice A all.length cap, .agg (vecA most)] w (LearnPost all kn w) := by
  unfold maxLen at hmax
  have T0 : Trk w _ [(w.heap.size, 30, vecA most)] := (Trk.nil w).push (t := 30) (cs := vecA most) rfl
  have HF := Lib.hid (And.intro hf (And.intro hM hE))
  have Y := Lib.hid (And.intro (h.call T0.below) T0)
  clear h T0 hf hM hE
  go_enter Try.func41, Try.ntmps41
  go_wp2_with fail
  generalize w.alloc _ = W at Y ⊢
  go_loopw [0, 7] (fun s0 s7 wr => ∃ (m : Nat) (g' : Nat) (kn' : Vec), m ≤ all.length + 1 ∧ s7 = .int .i64 m ∧ s0 = .pointer (some ⟨g', 0, none⟩) ∧ LedK wr g' kn' ∧ Fits all kn' ∧ (∀ r, r < 6 → kn.get r ≤ kn'.get r) ∧ Trk w wr [(w.heap.size, 30, vecA most)]) (fun _ s7 _ => all.length + 1 - (intOf s7).toNat)
  case atStart => exact ⟨0, g, kn, by omega, rfl, rfl, Y.out.1, HF.out.1, fun _ _ => Int.le_refl _, Y.out.2⟩
  case round =>
    obtain ⟨m, g1, kn1, hm, rfl, rfl, hL, hf1, hmono, T⟩ := hrel
    clear Y
    obtain ⟨wo, rfl⟩ : ∃ wo : World, wo = wr := ⟨_, rfl⟩
    by_cases hlt : m ≤ all.length
    · have hd : decide (m ≤ all.length) = true := decide_eq_true hlt
      obtain ⟨inn, vn, vg, gt, vl, vr, ns, gs, t, rs, hLL, hOO⟩ := id hL
      obtain ⟨q, -⟩ := hLL.blk.rules
      have lg := hLL.blk.lt
      have lt := T.lt
      have Z := Lib.hid (And.intro hL (And.intro hf1 (And.intro hmono T)))
      clear hLL hOO hL hf1 hmono T
      go_upto_region 5 with fail
      have hB1 : Below wo.heap.size wo (wo.alloc (.cells (vecA kn1) 30)) := (Below.refl _ _).alloc (Nat.le_refl _) _
      have Z1 := Lib.hid (And.intro (Z.out.1.call hB1) (And.intro Z.out.2.1 (And.intro Z.out.2.2.1 (Z.out.2.2.2.push (t := 30) (cs := vecA kn1) rfl))))
      generalize wo.alloc _ = W1 at Z1 ⊢
      generalize wo.heap.size = gb at Z1 ⊢
      clear q lg lt hB1 Z
      go_wp2_with fail
      go_loopw [0, 9] (fun s0 s9 wr => ∃ (i : Nat) (g2 : Nat) (kn2 : Vec), i ≤ all.length ∧ s9 = .int .i64 i ∧ s0 = .pointer (some ⟨g2, 0, none⟩) ∧ LedK wr g2 kn2 ∧ Fits all kn2 ∧ (∀ r, r < 6 → kn.get r ≤ kn2.get r) ∧ Trk w wr [(gb, 30, vecA kn1), (w.heap.size, 30, vecA most)]) (fun _ s9 _ => all.length - (intOf s9).toNat)
      case atStart => exact ⟨0, g1, kn1, by omega, rfl, rfl, Z1.out.1, Z1.out.2.1, Z1.out.2.2.1, Z1.out.2.2.2⟩
      case round =>
        obtain ⟨i, g2, kn2, hi, rfl, rfl, hL, hf2, hmono, T⟩ := hrel
        clear Z1
        obtain ⟨wi, rfl⟩ : ∃ wi : World, wi = wr := ⟨_, rfl⟩
        by_cases hlti : i < all.length
        · have hdi : decide (i < all.length) = true := decide_eq_true hlti
          obtain ⟨e, he⟩ : ∃ e, all[i]? = some e := ⟨all[i], List.getElem?_eq_getElem hlti⟩
          obtain ⟨hok, hmay, k, hk, hek, -, -⟩ := HF.out.2.1 i e he
          obtain ⟨b, o0, hA, hbl, hcells⟩ := ERows.at_ (HF.out.2.2.below T.below) he
          obtain ⟨o, s, d, kd, n, tt, am, rq, f⟩ := e
          obtain rfl : o = (k : Int) + 1 := hek
          subst hA
          have CA := Lib.hid (lapply hL hf2 hl (⟨(k : Int) + 1, s, d, kd, n, tt, am, rq, f⟩ : Ev) hok)
          obtain ⟨inn, vn, vg, gt, vl, vr, ns, gs, t, rs, hLL, -⟩ := id hL
          have lg := hLL.blk.lt
          obtain ⟨-, -, q1, -, -⟩ := T.rules
          obtain ⟨-, l1, -⟩ := T.lts
          have lb : b < wi.heap.size := Nat.lt_of_lt_of_le hbl T.below.size
          have cm := vecA_get most k hk
          obtain ⟨bb, hbb⟩ : ∃ bb, decide (s ≤ most.get k) = bb := ⟨_, rfl⟩
          have k0 : (0 : Int) ≤ (k : Int) := by omega
          have k6 : (k : Int) < 6 := by omega
          have Z2 := Lib.hid (And.intro hL (And.intro hf2 (And.intro hmono (And.intro T (And.intro he hok)))))
          clear hLL hL hf2 hmono T he hok hmay hbl
          obtain ⟨h0, h1, h2, h3, h4, h5, h6, h7, h8, h9, h10, h11, h12, h13⟩ := hcells
          have HC := Lib.hid (And.intro h2 (And.intro h3 (And.intro h4 (And.intro h5 (And.intro h6 (And.intro h7 (And.intro h8 (And.intro h9 (And.intro h10 (And.intro h11 (And.intro h12 h13)))))))))))
          clear h2 h3 h4 h5 h6 h7 h8 h9 h10 h11 h12 h13
          go_upto_region 8 with fail
          go_quiet (fail)
          rcases (show bb = false ∨ bb = true from by cases bb <;> simp) with rfl | rfl
          · clear h0 h1 q1 cm HC CA
            go_wp2_with fail
            go_roundw
            case rel => exact ⟨i + 1, g2, kn2, by omega, by go_num, rfl, Z2.out.1.call (below_drewN (Below.refl _ _) _), Z2.out.2.1, Z2.out.2.2.1, Z2.out.2.2.2.1.drewN _⟩
            case measure => simp [intOf]; omega
          · obtain ⟨h2, h3, h4, h5, h6, h7, h8, h9, h10, h11, h12, h13⟩ := HC.out
            have CB := Lib.hid (lapply (Z2.out.1.call (below_drewN (Below.refl _ _) nq)) Z2.out.2.1 hl (⟨(k : Int) + 1, s, d, kd, n, tt, am, rq, f⟩ : Ev) Z2.out.2.2.2.2.2)
            clear CA q1 cm
            go_wp2_with fail
            refine CB.out.mono ?_
            rintro r w4 ⟨g3, n3, kn3, rfl, hb4, hL4, hcase⟩
            have Z3 := Lib.hid (And.intro hL4 (And.intro (Z2.out.2.2.2.1.drewN nq |>.call hb4) hcase))
            clear hL4 hcase hb4 h0 h1 h2 h3 h4 h5 h6 h7 h8 h9 h10 h11 h12 h13 CB HC
            go_wp2_with fail
            go_roundw
            case rel =>
              rcases Z3.out.2.2 with ⟨_, rfl, rfl⟩ | ⟨_, hr, k', hk', hek', rfl⟩
              · exact ⟨i + 1, g3, kn3, by omega, by go_num, rfl, Z3.out.1, Z2.out.2.1, Z2.out.2.2.1, Z3.out.2.1⟩
              · refine ⟨i + 1, g3, _, by omega, by go_num, rfl, Z3.out.1, Z2.out.2.1.step HF.out.2.1 (List.mem_of_getElem? Z2.out.2.2.2.2.1) hr hk' hek', fun r hr6 => ?_, Z3.out.2.1⟩
                have := Z2.out.2.2.1 r hr6
                rw [Vec.get_set _ _ _ _ hk' hr6]
                split
                · rename_i e; subst e; omega
                · exact this
            case measure => simp [intOf]; omega
        · have hdi : decide (i < all.length) = false := decide_eq_false hlti
          obtain ⟨inn, vn, vg, gt, vl, vr, ns, gs, t, rs, hLL, -⟩ := id hL
          obtain ⟨q, -⟩ := hLL.blk.rules
          have lg := hLL.blk.lt
          obtain ⟨q0, -, -, -, -⟩ := T.rules
          obtain ⟨l0, -, -⟩ := T.lts
          have Z2 := Lib.hid (And.intro hL (And.intro hf2 (And.intro hmono T)))
          clear hLL hL hf2 hmono T
          obtain ⟨bb, hbb⟩ : ∃ bb, decide (kn2 = kn1) = bb := ⟨_, rfl⟩
          go_upto_region 10 with fail
          go_quiet (fail)
          clear q q0
          rcases (show bb = true ∨ bb = false from by cases bb <;> simp) with rfl | rfl
          · go_wp2_with fail
            go_ret
            exact ⟨g2, kn2, rfl, (Z2.out.2.2.2.drewN _).below, Z2.out.1.call (below_drewN (Below.refl _ _) _), Z2.out.2.1, Z2.out.2.2.1⟩
          · go_wp2_with fail
            go_roundw
            case rel => exact ⟨m + 1, g2, kn2, by omega, by go_num, rfl, Z2.out.1.call (below_drewN (Below.refl _ _) _), Z2.out.2.1, Z2.out.2.2.1, (Z2.out.2.2.2.drewN _).perm (by simp)⟩
            case measure => simp [intOf]; omega
    · have hd : decide (m ≤ all.length) = false := decide_eq_false hlt
      have Z := Lib.hid (And.intro hL (And.intro hf1 (And.intro hmono T)))
      clear hL hf1 hmono T
      go_wp2_with fail
      go_ret
      exact ⟨g1, kn1, rfl, Z.out.2.2.2.below, Z.out.1, Z.out.2.1, Z.out.2.2.1⟩
end
end Go.Proofs.Ytgbbhkdaalnchaa
