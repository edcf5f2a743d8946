/-
  The walk of leatref15's Next.
-/
import Derived.Test.YtgbbhkdaalnchaaHr
import Derived.Test.YtgbbhkdaalnchaaGV
import Derived.Test.YtgbbhkdaalnchaaWd
import Derived.RegionTactic
namespace Go.Proofs.Ytgbbhkdaalnchaa
set_option linter.unusedVariables false
set_option linter.unusedSimpArgs false
open Go.RowKit Go Go.BigFrame
set_option maxRecDepth 100000


section
variable {α : Type} {c : α → Array Value} {sz : Nat} {w w' : World} {B : Nat} {A : Option Addr} {L : List α}
theorem flat_take (hc : ∀ x, (c x).size = sz) (L : List α) (k : Nat) (hk : k ≤ L.length) : (flat c L).take (k * sz) = flat c (L.take k) := by
  have h : flat c L = flat c (L.take k) ++ flat c (L.drop k) := by rw [← flat_append, List.take_append_drop]
  have hl : (flat c (L.take k)).length = k * sz := by rw [flat_length hc, List.length_take, Nat.min_eq_left hk]
  rw [h, ← hl, List.take_left]
theorem flat_drop (hc : ∀ x, (c x).size = sz) (L : List α) (k : Nat) (hk : k ≤ L.length) : (flat c L).drop (k * sz) = flat c (L.drop k) := by
  have h : flat c L = flat c (L.take k) ++ flat c (L.drop k) := by rw [← flat_append, List.take_append_drop]
  have hl : (flat c (L.take k)).length = k * sz := by rw [flat_length hc, List.length_take, Nat.min_eq_left hk]
  rw [h, ← hl, List.drop_left]
theorem rdf_take (hc : ∀ x, (c x).size = sz) (h : Rd w B sz A L.length (flat c L)) (k : Nat) (hk : k ≤ L.length) : Rd w B sz A (L.take k).length (flat c (L.take k)) := by
  refine ⟨flat_length hc _, fun hn => ?_⟩
  have hl : (L.take k).length = k := by rw [List.length_take]; omega
  rw [hl] at hn
  have hm : k * sz ≤ L.length * sz := Nat.mul_le_mul_right _ hk
  obtain ⟨b, o, e, hb, hcl⟩ := h.2 (by omega)
  refine ⟨b, o, e, hb, fun j u hu => hcl j u ?_⟩
  rw [← flat_take hc L k hk, List.getElem?_take] at hu
  split at hu
  · exact hu
  · cases hu
theorem rdf_drop {b o : Nat} (hc : ∀ x, (c x).size = sz) (h : Rd w B sz (some ⟨b, o, none⟩) L.length (flat c L)) (k : Nat) (hk : k ≤ L.length) : Rd w B sz (some ⟨b, o + k * sz, none⟩) (L.drop k).length (flat c (L.drop k)) := by
  refine ⟨flat_length hc _, fun hn => ?_⟩
  rw [List.length_drop] at hn
  obtain ⟨b', o', e, hb, hcl⟩ := h.2 (by omega)
  obtain ⟨rfl, rfl⟩ : b = b' ∧ o = o' := by simpa using e
  refine ⟨b, o + k * sz, rfl, hb, fun j u hu => ?_⟩
  rw [← flat_drop hc L k hk, List.getElem?_drop] at hu
  rw [Nat.add_assoc]
  exact hcl _ u hu
end
/-- What is chosen, behind so many. -/
def Chosen (kn : Vec) (M : List Ev) (k : Nat) (z : Int) : Prop :=
  (z = -1 ∧ ∀ i, i < k → ∀ y, M[i]? = some y → readyB kn y = false) ∨ ∃ (j : Nat) (x : Ev), z = j ∧ j < k ∧ M[j]? = some x ∧ readyB kn x = true ∧ ∀ i, i < k → ∀ y, M[i]? = some y → readyB kn y = true → x.o ≤ y.o
theorem chosen_skip {kn : Vec} {M : List Ev} {k : Nat} {z : Int} {x : Ev} (h : Chosen kn M k z) (hx : M[k]? = some x) (hr : readyB kn x = false) : Chosen kn M (k + 1) z := by
  rcases h with ⟨h1, h2⟩ | ⟨j, y, h1, h2, h3, h4, h5⟩
  · refine .inl ⟨h1, fun i hi u hu => ?_⟩
    by_cases e : i = k
    · subst e; rw [hx] at hu; cases hu; exact hr
    · exact h2 i (by omega) u hu
  · refine .inr ⟨j, y, h1, by omega, h3, h4, fun i hi u hu hur => ?_⟩
    by_cases e : i = k
    · subst e; rw [hx] at hu; cases hu; rw [hr] at hur; cases hur
    · exact h5 i (by omega) u hu hur
theorem chosen_new {kn : Vec} {M : List Ev} {k : Nat} {x : Ev} (h : ∀ i, i < k → ∀ y, M[i]? = some y → readyB kn y = true → x.o ≤ y.o) (hx : M[k]? = some x) (hr : readyB kn x = true) : Chosen kn M (k + 1) k := by
  refine .inr ⟨k, x, rfl, by omega, hx, hr, fun i hi u hu hur => ?_⟩
  by_cases e : i = k
  · subst e; rw [hx] at hu; cases hu; exact Int.le_refl _
  · exact h i (by omega) u hu hur
theorem chosen_stay {kn : Vec} {M : List Ev} {k j : Nat} {x y : Ev} (hj : j < k) (hy : M[j]? = some y) (hyr : readyB kn y = true) (h : ∀ i, i < k → ∀ u, M[i]? = some u → readyB kn u = true → y.o ≤ u.o) (hx : M[k]? = some x) (hle : y.o ≤ x.o) : Chosen kn M (k + 1) j := by
  refine .inr ⟨j, y, rfl, by omega, hy, hyr, fun i hi u hu hur => ?_⟩
  by_cases e : i = k
  · subst e; rw [hx] at hu; cases hu; exact hle
  · exact h i (by omega) u hu hur
theorem Fr.blw {w w' w'' : World} {h B : Nat} {r : Option Nat} (a : Fr w w' h r) (b : Below B w' w'') (hB : w.heap.size ≤ B) : Fr w w'' h r :=
  ⟨b.os.trans a.os, b.tape.trans a.tape, b.output.trans a.output, Nat.le_trans a.size b.size, fun k hk h1 h2 => (b.block k (by omega)).trans (a.block k hk h1 h2)⟩
section
variable {w w' : World} {base b : Nat} {v : Value} {L : List Ev} {kn : Vec}
def RNextPost (base b : Nat) (kn : Vec) (L : List Ev) (w : World) (r : Ending) (w' : World) : Prop := r = .returned (hnextV (hnextR kn L)) ∧ ∃ v' L', RHo w' base b v' L' ∧ NextTo kn L L' ∧ Fr w w' b none
set_option maxHeartbeats 4000000 in
theorem rhnext (H : RHo w base b v L) (kn : Vec) (hkn : kn.ok) (hl : L.length ≤ 1000) (hN : NdN L) (hok : ∀ e ∈ L, e.ok) :
    Calls Try.prog 17 #[.pointer (some ⟨b, 0, none⟩), .agg (vecA kn)] w (RNextPost base b kn L w) := by
  have C1 := Lib.hid (fun (e : Ev) (he : e ∈ L) (t : Bool) (ht : lateB kn e = t) W => show Calls Try.prog 47 #[.agg (vecA kn), .agg (evA e)] W fun r w' => r = .returned (.bool t) ∧ Below W.heap.size W w' from by have := rlate kn e (hok e he) W; rw [ht] at this; exact this)
  have C2 := Lib.hid (fun (e : Ev) (he : e ∈ L) (t : Bool) (ht : readyB kn e = t) W => show Calls Try.prog 48 #[.agg (vecA kn), .agg (evA e)] W fun r w' => r = .returned (.bool t) ∧ Below W.heap.size W w' from by have := rready kn hkn e (hok e he) W; rw [ht] at this; exact this)
  have T0 : Trk w _ [(w.heap.size + 1, 32, evA Ev.zero), (w.heap.size, 30, vecA kn)] := ((Trk.nil w).push (t := 30) (cs := vecA kn) rfl).push (t := 32) (cs := evA Ev.zero) (g := w.heap.size + 1) (by simp)
  have HH := Lib.hid H
  have HT := Lib.hid T0
  have HL := Lib.hid (And.intro hl hN)
  have hbb : b < w.heap.size := H.blk.lt
  have hbase : base ≤ b := H.ge
  obtain ⟨A, cap, rfl, hcap, hmax⟩ := H.row.sl
  unfold maxLen at hmax
  clear H T0 hl hN hok hkn
  go_enter Try.func17, Try.ntmps17
  go_upto_region 3 with fail
  have hsz : ((w.alloc (.cells (vecA kn) 30)).alloc (.cells (evA Ev.zero) 32)).heap.size = w.heap.size + 2 := by simp
  generalize (w.alloc _).alloc _ = W at HT hsz ⊢
  go_loopw [6, 7] (fun s6 s7 wr => ∃ k : Nat, k ≤ L.length ∧ s7 = .int .i64 k ∧ RowE wr (w.heap.size + 2) s6 ((L.take k).filter fun e => !lateB kn e) ∧ Below (w.heap.size + 2) W wr) (fun _ s7 _ => L.length - (intOf s7).toNat)
  case atStart => exact ⟨0, by omega, rfl, by simpa using Row.nil, Below.refl _ _⟩
  case round =>
    obtain ⟨k, hk, rfl, hR, hb⟩ := hrel
    have hTb : Below w.heap.size w wr := HT.out.below.trans (hb.mono (by omega))
    have hT : Trk w wr [(w.heap.size + 1, 32, evA Ev.zero), (w.heap.size, 30, vecA kn)] := ⟨hTb, fun g t cs hm => by
      have h1 := HT.out.blk g t cs hm
      refine h1.below hb ?_
      simp at hm
      rcases hm with ⟨rfl, _⟩ | ⟨rfl, _⟩ <;> omega⟩
    have hH := HH.out.call hTb
    have hs2 : w.heap.size + 2 ≤ wr.heap.size := by have := hb.size; omega
    obtain ⟨q, f⟩ := hH.blk.rules
    have lb := hH.blk.lt
    obtain ⟨wo, rfl⟩ : ∃ wo : World, wo = wr := ⟨_, rfl⟩
    by_cases hlt : k < L.length
    · obtain ⟨-, -, q0, -, -⟩ := hT.rules
      obtain ⟨-, l0, -⟩ := hT.lts
      have hd : decide (k < L.length) = true := decide_eq_true hlt
      obtain ⟨x, hx⟩ : ∃ x, L[k]? = some x := ⟨L[k], List.getElem?_eq_getElem hlt⟩
      obtain ⟨g2, cap2, e0, h1, h2, h3, h4⟩ := hH.row.sl_pos (by omega)
      injection e0 with e1 e2 e3
      subst e1; subst e3
      obtain ⟨b0, o0, hA, hbl, hcells⟩ := (hH.row.erows rfl).at_ hx
      obtain ⟨rfl, rfl⟩ : g2 = b0 ∧ 0 = o0 := by simpa using hA
      rw [Nat.zero_add] at hcells
      obtain ⟨c0, c1, c2, c3, c4, c5, c6, c7, c8, c9, c10, c11, c12, c13⟩ := hcells
      obtain ⟨t1, ht1⟩ : ∃ t, lateB kn x = t := ⟨_, rfl⟩
      have CL := Lib.hid (fun y : Later wo => C1.out x (List.mem_of_getElem? hx) t1 ht1 y.w)
      have htake : (L.take (k + 1)).filter (fun e => !lateB kn e) = (L.take k).filter (fun e => !lateB kn e) ++ (if t1 then [] else [x]) := by
        rw [List.take_add_one, hx, List.filter_append]
        congr 1
        cases t1 <;> simp [ht1]
      have Z := Lib.hid (And.intro hR (And.intro hb (And.intro htake (And.intro hx hH))))
      clear hR hb hTb hT hH hx h1 h2 h3 e2 hA htake ht1
      go_upto_region 5 with fail
      refine wp_region_later (by kernel_rfl) (by kernel_rfl) ?_
      repeat (go_big_quiet_step ((go_at_call 47; with_reducible exact Calls.later (CL.out _))))
      refine wpQuiet_nil ?_
      rintro w3 ⟨y, rfl⟩
      have hyb := y.below
      clear CL q f q0 l0 lb c0 c1 c2 c3 c4 c5 c6 c7 c8 c9 c10 c11 c12 c13
      have Z2 := Lib.hid (And.intro (Z.out.1.call hyb) (And.intro (Z.out.2.1.trans (hyb.mono hs2)) (And.intro Z.out.2.2.1 (And.intro Z.out.2.2.2.1 (Z.out.2.2.2.2.call hyb)))))
      have hs3 : w.heap.size + 2 ≤ y.w.heap.size := by have := hyb.size; omega
      clear Z hs2
      generalize y.w = w3 at Z2 hyb hs3 ⊢
      clear hyb
      rcases (show t1 = true ∨ t1 = false from by cases t1 <;> simp) with rfl | rfl
      · go_wp2_with fail
        go_roundw
        case rel => exact ⟨k + 1, by omega, by go_num, by rw [Z2.out.2.2.1]; simpa using Z2.out.1, Z2.out.2.1⟩
        case measure => simp [intOf]; omega
      · have hB1 : Below w3.heap.size w3 (w3.alloc (.cells (evA x) 32)) := (Below.refl _ _).alloc (Nat.le_refl _) _
        obtain ⟨A2, c2', rfl, -, -⟩ := Z2.out.1.sl
        obtain ⟨v', W6, happ, rowN, hk6, -, -⟩ := RowE.app (base := w.heap.size + 2) (cap := 1) 49 (Z2.out.1.call hB1) (rd_one evA_size (Blk.new w3 32 (evA x))) (by
          have h1 := List.length_filter_le (fun e => !lateB kn e) (L.take k)
          have h2 : (L.take k).length ≤ k := by rw [List.length_take]; omega
          have := HL.out.1
          simp; omega) (by have := hB1.size; omega)
        simp only [List.length_singleton] at happ
        have H3 := Z2.out.2.2.2.2
        obtain ⟨q, f⟩ := H3.blk.rules
        have lb := H3.blk.lt
        obtain ⟨b0, o0, hA, hbl, hcells⟩ := (H3.row.erows rfl).at_ Z2.out.2.2.2.1
        obtain ⟨rfl, rfl⟩ : g2 = b0 ∧ 0 = o0 := by simpa using hA
        rw [Nat.zero_add] at hcells
        obtain ⟨c0, c1, c2, c3, c4, c5, c6, c7, c8, c9, c10, c11, c12, c13⟩ := hcells
        have htk := Z2.out.2.2.1
        rw [if_neg (by decide)] at htk
        rw [← htk] at rowN
        have X := Lib.hid (And.intro rowN (Z2.out.2.1.trans ((hB1.mono hs3).trans hk6.below)))
        clear Z2 H3 hA hB1 rowN hk6 htk
        go_wp2_with fail
        go_roundw
        case rel => exact ⟨k + 1, by omega, by go_num, X.out.1, X.out.2⟩
        case measure => simp [intOf]; omega
    · have hd : decide (k < L.length) = false := decide_eq_false hlt
      obtain rfl : k = L.length := by omega
      rw [List.take_length] at hR
      generalize hM : (L.filter fun e => !lateB kn e) = M at hR
      have hMle : M.length ≤ L.length := by rw [← hM]; exact List.length_filter_le _ _
      have HM := Lib.hid hM
      have hMsub : ∀ e ∈ M, e ∈ L := fun e he => by rw [← hM] at he; exact (List.mem_filter.1 he).1
      have hMn : NdN M := by rw [← hM]; exact HL.out.2.sublist List.filter_sublist
      obtain ⟨AM, cM, rfl, hcM, hmM⟩ := hR.sl
      unfold maxLen at hmM
      -- the store
      have bB := hH.blk.set_ 0 (.slice AM M.length cM)
      have fS : Fr wo (wo.setCell ⟨b, 0, none⟩ (.slice AM M.length cM)) b none := Fr.of_set ⟨b, 0, none⟩ rfl _
      have bE := fS.blk (hT.blk (w.heap.size + 1) 32 (evA Ev.zero) (by simp)) (by omega) (by simp)
      have bV := fS.blk (hT.blk w.heap.size 30 (vecA kn) (by simp)) (by omega) (by simp)
      have rM := fS.own hR (fun e => by have := (hR.ge _ e).1; omega) (by cases (Value.slice AM M.length cM).ownBlock <;> simp)
      have F7 : Fr w (wo.setCell ⟨b, 0, none⟩ (.slice AM M.length cM)) b none := (Fr.of_below hTb).trans fS
      have hs7 : w.heap.size + 2 ≤ (wo.setCell ⟨b, 0, none⟩ (.slice AM M.length cM)).heap.size := Nat.le_trans hs2 fS.size
      have Z := Lib.hid (And.intro bB (And.intro bE (And.intro bV (And.intro (show RowE _ (w.heap.size + 2) (.slice AM M.length cM) M from rM) (And.intro F7 hs7)))))
      have HMM := Lib.hid (And.intro hMle (And.intro hMsub hMn))
      clear bB fS bE bV rM F7 hs7 hM hMle hMsub hMn hR hH hT hTb hb hs2
      go_upto_region 8 with fail
      clear q f lb hd
      generalize wo.setCell _ _ = W7 at Z ⊢
      go_upto_region 10 with fail
      go_loopw [8, 9] (fun s8 s9 wr => ∃ (k : Nat) (z : Int), k ≤ M.length ∧ s9 = .int .i64 k ∧ s8 = .int .i64 z ∧ Chosen kn M k z ∧ Below W7.heap.size W7 wr) (fun _ s9 _ => M.length - (intOf s9).toNat)
      case atStart => exact ⟨0, -1, by omega, rfl, rfl, .inl ⟨rfl, fun i hi => absurd hi (by omega)⟩, Below.refl _ _⟩
      case round =>
        obtain ⟨k, z, hk, rfl, rfl, hC, hb⟩ := hrel
        obtain ⟨wi, rfl⟩ : ∃ wi : World, wi = wr := ⟨_, rfl⟩
        have bB := Z.out.1.call hb
        have rM : RowE wi (w.heap.size + 2) (.slice AM M.length cM) M := Row.call Z.out.2.2.2.1 hb
        obtain ⟨q, f⟩ := bB.rules
        have lb := bB.lt
        by_cases hlt : k < M.length
        · obtain ⟨q0, -⟩ := (Z.out.2.2.1.call hb).rules
          have l0 := (Z.out.2.2.1.call hb).lt
          have hd : decide (k < M.length) = true := decide_eq_true hlt
          obtain ⟨x, hx⟩ : ∃ x, M[k]? = some x := ⟨M[k], List.getElem?_eq_getElem hlt⟩
          obtain ⟨g2, cap2, e0, h1, h2, h3, h4⟩ := rM.sl_pos (by omega)
          injection e0 with e1 e2 e3
          subst e1; subst e3
          obtain ⟨b0, o0, hA, hbl, hcells⟩ := (rM.erows rfl).at_ hx
          obtain ⟨rfl, rfl⟩ : g2 = b0 ∧ 0 = o0 := by simpa using hA
          rw [Nat.zero_add] at hcells
          obtain ⟨c0, c1, c2, c3, c4, c5, c6, c7, c8, c9, c10, c11, c12, c13⟩ := hcells
          obtain ⟨t1, ht1⟩ : ∃ t, readyB kn x = t := ⟨_, rfl⟩
          have CL := Lib.hid (fun y : Later wi => C2.out x (HMM.out.2.1 x (List.mem_of_getElem? hx)) t1 ht1 y.w)
          have HX := Lib.hid (And.intro hx (And.intro ht1 hb))
          have HR := Lib.hid rM
          clear hx ht1 hb h1 h2 h3 e2 hA rM bB
          rcases (show t1 = false ∨ t1 = true from by cases t1 <;> simp) with rfl | rfl
          · have HC := Lib.hid hC
            clear hC
            go_upto_region 12 with fail
            refine wp_region_later (by kernel_rfl) (by kernel_rfl) ?_
            repeat (go_big_quiet_step ((go_at_call 48; with_reducible exact Calls.later (CL.out _))))
            refine wpQuiet_nil ?_
            rintro w3 ⟨y, rfl⟩
            have hyb := y.below
            generalize y.w = w3 at hyb ⊢
            clear CL q f q0 l0 lb c0 c1 c2 c3 c4 c5 c6 c7 c8 c9 c10 c11 c12 c13
            go_wp2_with fail
            go_roundw
            case rel => exact ⟨k + 1, z, by omega, by go_num, rfl, chosen_skip HC.out HX.out.1 HX.out.2.1, HX.out.2.2.trans (hyb.mono HX.out.2.2.size)⟩
            case measure => simp [intOf]; omega
          · rcases hC with ⟨rfl, hno⟩ | ⟨j, x2, rfl, hj, hx2, hr2, hmin⟩
            · have HC := Lib.hid hno
              clear hno
              go_upto_region 12 with fail
              refine wp_region_later (by kernel_rfl) (by kernel_rfl) ?_
              repeat (go_big_quiet_step ((go_at_call 48; with_reducible exact Calls.later (CL.out _))))
              refine wpQuiet_nil ?_
              rintro w3 ⟨y, rfl⟩
              have hyb := y.below
              generalize y.w = w3 at hyb ⊢
              clear CL q f q0 l0 lb c0 c1 c2 c3 c4 c5 c6 c7 c8 c9 c10 c11 c12 c13
              go_wp2_with fail
              go_roundw
              case rel => exact ⟨k + 1, k, by omega, by go_num, rfl, chosen_new (fun i hi y hy hyr => by rw [HC.out i hi y hy] at hyr; cases hyr) HX.out.1 HX.out.2.1, HX.out.2.2.trans (hyb.mono HX.out.2.2.size)⟩
              case measure => simp [intOf]; omega
            · have dj : decide ((j : Int) < 0) = false := decide_eq_false (by omega)
              have d0 : wi.cell? ⟨g2, j * 14, none⟩ = some (.int .i64 x2.o) := HR.out.rng evA_size hx2 0 _ rfl
              have hjM : j < M.length := by omega
              obtain ⟨tb, htb⟩ : ∃ t, decide (x.o < x2.o) = t := ⟨_, rfl⟩
              have HC := Lib.hid (And.intro hx2 (And.intro hr2 (And.intro hmin htb)))
              clear hx2 hr2 hmin
              rcases (show tb = false ∨ tb = true from by cases tb <;> simp) with rfl | rfl
              · go_upto_region 12 with fail
                refine wp_region_later (by kernel_rfl) (by kernel_rfl) ?_
                repeat (go_big_quiet_step ((go_at_call 48; with_reducible exact Calls.later (CL.out _))))
                refine wpQuiet_nil ?_
                rintro w3 ⟨y, rfl⟩
                have hyb := y.below
                generalize y.w = w3 at hyb ⊢
                clear CL q f q0 l0 lb c0 c1 c2 c3 c4 c5 c6 c7 c8 c9 c10 c11 c12 c13 d0
                go_wp2_with fail
                go_roundw
                case rel => exact ⟨k + 1, j, by omega, by go_num, rfl, chosen_stay hj HC.out.1 HC.out.2.1 HC.out.2.2.1 HX.out.1 (by have := of_decide_eq_false HC.out.2.2.2; omega), HX.out.2.2.trans (hyb.mono HX.out.2.2.size)⟩
                case measure => simp [intOf]; omega
              · go_upto_region 12 with fail
                refine wp_region_later (by kernel_rfl) (by kernel_rfl) ?_
                repeat (go_big_quiet_step ((go_at_call 48; with_reducible exact Calls.later (CL.out _))))
                refine wpQuiet_nil ?_
                rintro w3 ⟨y, rfl⟩
                have hyb := y.below
                generalize y.w = w3 at hyb ⊢
                clear CL q f q0 l0 lb c0 c1 c2 c3 c4 c5 c6 c7 c8 c9 c10 c11 c12 c13 d0
                go_wp2_with fail
                go_roundw
                case rel => exact ⟨k + 1, k, by omega, by go_num, rfl, chosen_new (fun i hi y hy hyr => by have h1 := HC.out.2.2.1 i hi y hy hyr; have h2 := of_decide_eq_true HC.out.2.2.2; omega) HX.out.1 HX.out.2.1, HX.out.2.2.trans (hyb.mono HX.out.2.2.size)⟩
                case measure => simp [intOf]; omega
        · have hd : decide (k < M.length) = false := decide_eq_false hlt
          obtain rfl : k = M.length := by omega
          have bE := Z.out.2.1.call hb
          have F8 : Fr w wi b none := Z.out.2.2.2.2.1.trans (Fr.of_below hb)
          have hs8 : w.heap.size + 2 ≤ wi.heap.size := Nat.le_trans Z.out.2.2.2.2.2 hb.size
          obtain ⟨q1, f1⟩ := bE.rules
          have l1 := bE.lt
          rcases hC with ⟨rfl, hno⟩ | ⟨j, x2, rfl, hj, hx2, hr2, hmin⟩
          · have hr : hnextR kn L = none := by
              unfold hnextR
              rw [HM.out]
              exact pickE_no fun y hy => by
                obtain ⟨i, hi⟩ := List.getElem?_of_mem hy
                exact hno i (List.getElem?_eq_some_iff.1 hi).1 y hi
            have F9 := setEv14_fr wi (w.heap.size + 1) Ev.zero
            have bE9 : Blk (setEv14 wi (w.heap.size + 1) Ev.zero) (w.heap.size + 1) 32 (evA Ev.zero) := (((Trk.bare wi).add bE).setEv (Nat.zero_le _) trivial Ev.zero).blk _ _ _ List.mem_cons_self
            have X := Lib.hid (And.intro bE9 (And.intro (show RHo (setEv14 wi (w.heap.size + 1) Ev.zero) base b (.slice AM M.length cM) M from ⟨F9.blk bB (by omega) (by simp), hbase, (show RowE _ (w.heap.size + 2) _ _ from F9.own rM (fun e => by have := (rM.ge _ e).1; omega) (by cases (Value.slice AM M.length cM).ownBlock <;> simp)).mono (by omega)⟩) (F8.new F9 (by omega))))
            clear F9 bE9 bB rM bE F8 hb hno f
            go_wp2_with fail
            refine bodyPost_ret (v := .tuple #[.agg (evA Ev.zero), .bool false]) (results_hold (s1 := 4) (s2 := 5) (by kernel_rfl) _ (w.heap.size + 1) Ev.zero false _ rfl rfl X.out.1) rfl ⟨by rw [hr]; rfl, _, M, X.out.2.1, ?_, X.out.2.2⟩
            unfold NextTo
            rw [hr, HM.out]
          · have hx2' := List.mem_of_getElem? hx2
            have hr : hnextR kn L = some x2 := by
              unfold hnextR
              rw [HM.out]
              refine pickE_min HMM.out.2.2 hx2' hr2 fun y hy hyr => ?_
              obtain ⟨i, hi⟩ := List.getElem?_of_mem hy
              exact hmin i (List.getElem?_eq_some_iff.1 hi).1 y hi hyr
            have HRR := Lib.hid (And.intro hr (perm_eraseIdx M j x2 hx2))
            have dj : decide ((j : Int) < 0) = false := decide_eq_false (by omega)
            have hjM : j < M.length := hj
            obtain ⟨g2, cap2, e0, h1, h2, h3, h4⟩ := rM.sl_pos (by omega)
            injection e0 with e1 e2 e3
            subst e1; subst e3
            obtain ⟨b0, o0, hA, hbl, hcells⟩ := (rM.erows rfl).at_ hx2
            obtain ⟨rfl, rfl⟩ : g2 = b0 ∧ 0 = o0 := by simpa using hA
            rw [Nat.zero_add] at hcells
            obtain ⟨c0, c1, c2, c3, c4, c5, c6, c7, c8, c9, c10, c11, c12, c13⟩ := hcells
            have Y := Lib.hid (And.intro bB (And.intro bE (And.intro rM (And.intro F8 hs8))))
            clear hx2 hx2' hr2 hmin hr hb bB bE rM F8 hA h1 h2 h3 e2 q1 f1 l1 f
            go_upto_region 18 with fail
            have hB1 : Below wi.heap.size wi (wi.alloc (.cells (evA x2) 32)) := (Below.refl _ _).alloc (Nat.le_refl _) _
            have bX : Blk (wi.alloc (.cells (evA x2) 32)) wi.heap.size 32 (evA x2) := Blk.new _ _ _
            have X1 := Lib.hid (And.intro (Y.out.1.call hB1) (And.intro (Y.out.2.1.call hB1) (And.intro (show RowE _ (w.heap.size + 2) (.slice (some ⟨g2, 0, none⟩) M.length cM) M from Row.call Y.out.2.2.1 hB1) (And.intro (Y.out.2.2.2.1.trans (Fr.of_below hB1)) bX))))
            have hgx : (wi.alloc (.cells (evA x2) 32)).heap.size = wi.heap.size + 1 := by simp
            clear c0 c1 c2 c3 c4 c5 c6 c7 c8 c9 c10 c11 c12 c13 q lb hB1 bX dj
            have hs8' := Y.out.2.2.2.2
            clear Y
            generalize wi.alloc _ = W8 at X1 hgx ⊢
            generalize wi.heap.size = gx at X1 hgx hs8 hs8' ⊢
            have hM1000 : M.length ≤ 1000 := Nat.le_trans HMM.out.1 HL.out.1
            have hlt1 : (M.take j).length = j := by rw [List.length_take]; omega
            have hx9 : M.length ≤ 9223372036854775807 := by omega
            have hc9 : cM ≤ 9223372036854775807 := hmM
            have hkc : j + 1 ≤ cM := by omega
            have hkc2 : j ≤ cM := by omega
            have hkx : j + 1 ≤ M.length := by omega
            have j0 : (0 : Int) ≤ (j : Int) := by omega
            have jM : (j : Int) < (M.length : Int) := by omega
            have rM8 : RowE W8 (w.heap.size + 2) (.slice (some ⟨g2, 0, none⟩) M.length cM) M := X1.out.2.2.1
            obtain ⟨v3, W9, happ, row3, K3, -, -⟩ := RowE.app (base := gx + 1) (cap := cM) 49 (Row.nil (w := W8)) (rdf_take evA_size (rM8.rd rfl) j (by omega)) (by simp; omega) (by omega)
            rw [List.nil_append] at row3
            obtain ⟨A3, c3, rfl, -, -⟩ := row3.sl
            rw [hlt1] at row3 happ
            obtain ⟨A2, hA2, hsrc⟩ : ∃ A2 : Option Addr, (if cM = j + 1 then (some ⟨g2, 0, none⟩ : Option Addr) else some ⟨g2, (j + 1) * 14, none⟩) = A2 ∧ Hid (∀ W, Below W8.heap.size W8 W → Rd W W8.heap.size 14 A2 (M.drop (j + 1)).length (flat evA (M.drop (j + 1)))) := by
              by_cases hc : cM = j + 1
              · refine ⟨some ⟨g2, 0, none⟩, by simp [hc], Lib.hid fun W hW => ⟨flat_length evA_size _, fun hn => ?_⟩⟩
                rw [List.length_drop] at hn
                omega
              · refine ⟨some ⟨g2, (j + 1) * 14, none⟩, by simp [hc], Lib.hid fun W hW => ?_⟩
                have h1 := rdf_drop evA_size ((rM8.rd rfl).below hW) (j + 1) (by omega)
                rw [Nat.zero_add] at h1
                exact h1
            have hb9 : Below W8.heap.size W8 W9 := by rw [hgx]; exact K3.below
            obtain ⟨q, -⟩ := X1.out.1.rules
            have lb := X1.out.1.lt
            go_upto_region 19 with fail
            clear q lb happ
            have bB9 := X1.out.1.call hb9
            obtain ⟨q, -⟩ := bB9.rules
            have lb := bB9.lt
            have hs9 : gx + 1 ≤ W9.heap.size := by have := hb9.size; omega
            obtain ⟨v4, W10, happ, row4, K4, -, -⟩ := RowE.app (base := gx + 1) (cap := cM - (j + 1)) 49 row3 (hsrc.out W9 hb9) (by rw [List.length_drop, hlt1]; omega) hs9
            obtain ⟨A4, c4, rfl, -, -⟩ := row4.sl
            have hl4 : (M.take j ++ M.drop (j + 1)).length = M.length - 1 := by rw [List.length_append, List.length_drop, hlt1]; omega
            rw [hl4] at row4 happ
            rw [List.length_drop] at happ
            have bB10 := bB9.below K4.below (by omega)
            have bE10 := (X1.out.2.1.call hb9).below K4.below (by omega)
            have bX10 := (X1.out.2.2.2.2.call hb9).below K4.below (by omega)
            obtain ⟨q10, f10⟩ := bB10.rules
            have lb10 := bB10.lt
            have fS : Fr W10 (W10.setCell ⟨b, 0, none⟩ (.slice A4 (M.length - 1) c4)) b none := Fr.of_set ⟨b, 0, none⟩ rfl _
            have Y := Lib.hid (And.intro (bB10.set_ 0 (.slice A4 (M.length - 1) c4)) (And.intro (fS.blk bE10 (by omega) (by simp)) (And.intro (fS.blk bX10 (by omega) (by simp)) (And.intro (show RowE _ (gx + 1) (.slice A4 (M.length - 1) c4) (M.take j ++ M.drop (j + 1)) from by
              have h1 := fS.own row4 (fun e => by have := (row4.ge _ e).1; omega) (by cases (Value.slice A4 (M.length - 1) c4).ownBlock <;> simp)
              exact h1) (((X1.out.2.2.2.1.trans (Fr.of_below hb9)).blw K4.below (by omega)).trans fS)))))
            clear bB9 hb9 row3 row4 K3 K4 hsrc bB10 bE10 bX10 fS X1 rM8
            go_upto_region 20 with fail
            generalize W10.setCell _ _ = W11 at Y ⊢
            clear q lb q10 f10 lb10 happ
            have F12 := setEv14_fr W11 (w.heap.size + 1) x2
            have bE9 : Blk (setEv14 W11 (w.heap.size + 1) x2) (w.heap.size + 1) 32 (evA x2) := (((Trk.bare W11).add Y.out.2.1).setEv (Nat.zero_le _) trivial x2).blk _ _ _ List.mem_cons_self
            have X := Lib.hid (And.intro bE9 (And.intro (show RHo (setEv14 W11 (w.heap.size + 1) x2) base b (.slice A4 (M.length - 1) c4) (M.take j ++ M.drop (j + 1)) from ⟨F12.blk Y.out.1 (by omega) (by simp), hbase, (show RowE _ (gx + 1) _ _ from F12.own Y.out.2.2.2.1 (fun e => by have := (Row.ge Y.out.2.2.2.1 _ e).1; omega) (by cases (Value.slice A4 (M.length - 1) c4).ownBlock <;> simp)).mono (by omega)⟩) (Y.out.2.2.2.2.new F12 (by omega))))
            obtain ⟨q1, f1⟩ := Y.out.2.1.rules
            have l1 := Y.out.2.1.lt
            obtain ⟨q2, -⟩ := Y.out.2.2.1.rules
            have l2 := Y.out.2.2.1.lt
            clear F12 bE9
            go_wp2_with fail
            refine bodyPost_ret (v := .tuple #[.agg (evA x2), .bool true]) (results_hold (s1 := 4) (s2 := 5) (by kernel_rfl) _ (w.heap.size + 1) x2 true _ rfl rfl X.out.1) rfl ⟨by rw [HRR.out.1]; rfl, _, M.take j ++ M.drop (j + 1), X.out.2.1, ?_, X.out.2.2⟩
            unfold NextTo
            rw [HRR.out.1, HM.out]
            have hp := HRR.out.2
            rw [List.eraseIdx_eq_take_drop_succ] at hp
            exact hp
end
end Go.Proofs.Ytgbbhkdaalnchaa
