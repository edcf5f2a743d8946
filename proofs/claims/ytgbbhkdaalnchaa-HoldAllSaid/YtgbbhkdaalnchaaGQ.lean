/-
  Rows of elements of any type, each of so many cells: read, stored into, appended to; what a step that changes blocks of some types alone leaves. No function of the program here.
  The document's ledger and tree in memory: nodes, grants, the tree's nodes, requests. No function of the program here.
  Literals of a tree's nodes, a ledger's nodes and grants. No function of the program here.
-/
import Derived.Test.YtgbbhkdaalnchaaAg
namespace Go.Proofs.Ytgbbhkdaalnchaa
set_option linter.unusedVariables false
set_option linter.unusedSimpArgs false
open Go.RowKit Go
set_option maxRecDepth 100000

theorem row_apart {w : World} {b1 b2 : Nat} {e1 e2 : TypeId} {s1 s2 n1 n2 : Nat} {v1 v2 : Value} {xs1 xs2 : List Value} (h1 : w.ownsRow b1 e1 s1 v1 n1 xs1) (h2 : w.ownsRow b2 e2 s2 v2 n2 xs2) (he : e1 ≠ e2) : v1.ownBlock = none ∨ v1.ownBlock ≠ v2.ownBlock := by
  rcases h1.2 with ⟨rfl, _⟩ | ⟨g, cap, cur, rfl, _, hg, _⟩
  · exact .inl rfl
  · rcases h2.2 with ⟨rfl, _⟩ | ⟨g', cap', cur', rfl, _, hg', _⟩
    · exact .inr (by simp [Value.ownBlock])
    · refine .inr fun e => ?_
      obtain rfl : g = g' := by simpa [Value.ownBlock] using e
      rw [hg] at hg'
      injection hg' with h3
      injection h3 with _ h4
      exact he h4
section
variable {P : Program} (w : World)
/-- append of a whole slice, nil or not, onto a row of the call's own. -/
theorem run_append_rowG (base : Nat) (t ty e : TypeId) (i : TypeInfo) (z : Value) (size bytes : Nat) (ht : P.underlying t = some (.slice e)) (hi : P.info? e = some i) (hz : i.zero = some z)
    (hsize : i.size = size) (hby : i.bytes = bytes) (hzs : z.cells.size = size) (hsz : 0 < size)
    (v : Value) (n : Nat) (xs : List Value) (hown : w.ownsRow base e size v n xs) (B : Nat) (A : Option Addr) (m c : Nat) (news : List Value) (hr : Rd w B size A m news) (h1 : ∀ u ∈ news, u.oneCell' = true)
    (h63 : n + m ≤ maxLen) (hbytes : (n + m) * bytes ≤ 140737488355328) (hbase : base ≤ w.heap.size) :
    ∃ v' w', (Builtin.append_ #[t, t] ty #[v, .slice A m c]).run P w = .ok v' w' ∧ w'.ownsRow base e size v' (n + m) (xs ++ news) ∧ Below base w w' ∧ w.grownBy w' v.ownBlock := by
  have hgr : ∀ w', w.grownBy w' v.ownBlock → Below base w w' := fun w' hg => (Below.refl _ _).grown hg hbase fun k hk => (hown.lt k hk).1
  by_cases hm : m = 0
  · subst hm
    obtain rfl : news = [] := List.eq_nil_of_length_eq_zero (by simpa using hr.1)
    rcases A with _ | ad
    · refine ⟨v, w, ?_, by simpa using hown, Below.refl _ _, ⟨rfl, rfl, rfl, Nat.le_refl _, fun _ _ _ => rfl⟩⟩
      rcases hown.2 with ⟨rfl, rfl⟩ | ⟨g, cap, cur, rfl, _, _, hnc, _⟩
      · simp [Builtin.append_, run_underlying ht, sizeOf, typeInfo, hi, Builtin.lenOf, Builtin.firstCells]
      · simp [Builtin.append_, run_underlying ht, sizeOf, typeInfo, hi, Builtin.lenOf, Builtin.firstCells, hnc, storeCells]
    · obtain ⟨v', w', hrun, h2, h3, _⟩ := run_append_own (P := P) w base t ty e i z size bytes ht hi hz hsize hby hzs hsz v n xs hown ad 0 c [] (by simp) (fun j u hu => by simp at hu) (fun u hu => by cases hu) h63 hbytes hbase
      exact ⟨v', w', hrun, h2, hgr w' h3, h3⟩
  · obtain ⟨b, o, rfl, hlt, hc⟩ := hr.2 (by omega)
    obtain ⟨v', w', hrun, h2, h3, _⟩ := run_append_own (P := P) w base t ty e i z size bytes ht hi hz hsize hby hzs hsz v n xs hown ⟨b, o, none⟩ m c news hr.1 (fun j u hu => by rw [addr_add]; exact hc j u hu) h1 h63 hbytes hbase
    exact ⟨v', w', hrun, h2, hgr w' h3, h3⟩

theorem run_append_rowF (base : Nat) (t ty e : TypeId) (i : TypeInfo) (z : Value) (size bytes : Nat) (ht : P.underlying t = some (.slice e)) (hi : P.info? e = some i) (hz : i.zero = some z)
    (hsize : i.size = size) (hby : i.bytes = bytes) (hzs : z.cells.size = size) (hsz : 0 < size)
    (v : Value) (n : Nat) (xs : List Value) (hown : w.ownsRow base e size v n xs) (B : Nat) (A : Option Addr) (m c : Nat) (news : List Value) (hrd : Rd w B size A m news) (h1 : ∀ u ∈ news, u.oneCell' = true)
    (h63 : n + m ≤ maxLen) (hbytes : (n + m) * bytes ≤ 140737488355328) (hbase : base ≤ w.heap.size) :
    ∃ v' w', (Builtin.append_ #[t, t] ty #[v, .slice A m c]).run P w = .ok v' w' ∧ w'.ownsRow base e size v' (n + m) (xs ++ news) ∧ Below base w w' ∧ w.grownBy w' v.ownBlock ∧ (v'.ownBlock = v.ownBlock ∨ ∀ b, v'.ownBlock = some b → w.heap.size ≤ b) := by
  obtain ⟨v', w', hr, h2, h3, h4⟩ := run_append_rowG (P := P) w base t ty e i z size bytes ht hi hz hsize hby hzs hsz v n xs hown B A m c news hrd h1 h63 hbytes hbase
  refine ⟨v', w', hr, h2, h3, h4, ?_⟩
  subst hsize
  subst hby
  by_cases hm : m = 0
  · subst hm
    rcases hown.2 with ⟨rfl, rfl⟩ | ⟨g, cap, cur, rfl, hbg, hg, hnc, hcm, hcs, htake⟩
    · rcases h2.2 with ⟨rfl, _⟩ | ⟨g', cap', cur', rfl, _, hg', _⟩
      · exact .inl rfl
      · refine .inr fun b hb => ?_
        obtain rfl : g' = b := by simpa [Value.ownBlock] using hb
        rcases Nat.lt_or_ge g' w.heap.size with hlt | hge
        · exfalso
          have hne := hr
          rcases A with _ | ad
          · simp [Builtin.append_, run_underlying ht, sizeOf, typeInfo, hi, Builtin.lenOf, Builtin.firstCells] at hne
          · simp [Builtin.append_, run_underlying ht, sizeOf, typeInfo, hi, Builtin.lenOf, Builtin.firstCells, loadCells, loadCellsFrom] at hne
        · exact hge
    · obtain rfl : news = [] := List.eq_nil_of_length_eq_zero (by simpa using hrd.1)
      left
      rcases A with _ | ad
      · simp [Builtin.append_, run_underlying ht, sizeOf, typeInfo, hi, Builtin.lenOf, Builtin.firstCells, hnc, storeCells] at hr
        rw [← hr.1]
      · rw [run_append_room (P := P) w t ty e i ht hi g n cap cur hg ad 0 c [] (by simp) (fun j u hu => by simp at hu) (fun u hu => by cases hu) hnc (by rw [hcs]; simp; exact Nat.mul_le_mul_right _ hnc)] at hr
        injection hr with e1 _
        rw [← e1]
        rfl
  · obtain ⟨b, o, rfl, hlt, hc⟩ := hrd.2 (by omega)
    have hnews : ∀ j u, news[j]? = some u → w.cell? ((⟨b, o, none⟩ : Addr).add j) = some u := fun j u hu => by rw [addr_add]; exact hc j u hu
    rcases hown.2 with ⟨rfl, rfl⟩ | ⟨g, cap, cur, rfl, hbg, hg, hnc, hcm, hcs, htake⟩
    · rw [run_append_nil (P := P) w t ty e i z ht hi hz ⟨b, o, none⟩ m c news hrd.1 hnews (by omega) (by simp only [maxLen] at h63; omega) (by have hb := hbytes; simp only [Nat.zero_add] at hb; omega)] at hr
      injection hr with e1 _
      rw [← e1]
      refine .inr fun b' hb' => ?_
      have : w.heap.size = b' := by simpa [Value.ownBlock] using hb'
      omega
    · by_cases hroom : n + m ≤ cap
      · rw [run_append_room (P := P) w t ty e i ht hi g n cap cur hg ⟨b, o, none⟩ m c news hrd.1 hnews h1 hroom (by rw [hrd.1, hcs, ← Nat.add_mul]; exact Nat.mul_le_mul_right _ hroom)] at hr
        injection hr with e1 _
        rw [← e1]
        exact .inl rfl
      · have holds : ∀ j u, xs[j]? = some u → w.cell? ((⟨g, 0, none⟩ : Addr).add j) = some u := hown.cells (g := g) rfl
        rw [run_append_grow (P := P) w t ty e i z ht hi hz ⟨g, 0, none⟩ n cap xs hown.1 holds ⟨b, o, none⟩ m c news hrd.1 hnews (by omega) (by simp only [maxLen] at h63; omega) (growslice_fits (by omega) hbytes)] at hr
        injection hr with e1 _
        rw [← e1]
        refine .inr fun b' hb' => ?_
        have : w.heap.size = b' := by simpa [Value.ownBlock] using hb'
        omega
end

/-- A part of a part is laid anew. -/
theorem splice_part {α : Type} (l cs : List α) (a o sz n : Nat) (h1 : o + cs.length ≤ sz) (h2 : a + sz ≤ n) (h3 : n ≤ l.length) :
    List.take n (l.take (a + o) ++ cs ++ l.drop (a + o + cs.length)) = (l.take n).take a ++ (((l.drop a).take sz).take o ++ cs ++ ((l.drop a).take sz).drop (o + cs.length)) ++ (l.take n).drop (a + sz) := by
  have e1 : l.take (a + o) = l.take a ++ (l.drop a).take o := List.take_add
  have e2 : ((l.drop a).take sz).take o = (l.drop a).take o := by rw [List.take_take, Nat.min_eq_left (by omega)]
  have e3 : ((l.drop a).take sz).drop (o + cs.length) = (l.drop (a + o + cs.length)).take (sz - (o + cs.length)) := by
    rw [List.drop_take, List.drop_drop, Nat.add_assoc]
  have e4 : (l.take n).drop (a + sz) = (l.drop (a + sz)).take (n - (a + sz)) := by rw [List.drop_take]
  have e5 : (l.take n).take a = l.take a := by rw [List.take_take, Nat.min_eq_left (by omega)]
  have e6 : (l.drop (a + o + cs.length)).take (n - (a + o + cs.length)) = (l.drop (a + o + cs.length)).take (sz - (o + cs.length)) ++ (l.drop (a + sz)).take (n - (a + sz)) := by
    have h : n - (a + o + cs.length) = (sz - (o + cs.length)) + (n - (a + sz)) := by omega
    rw [h, List.take_add, List.drop_drop, show a + o + cs.length + (sz - (o + cs.length)) = a + sz from by omega]
  rw [e2, e3, e4, e5, List.take_append, List.take_append, e1]
  have l1 : (l.take a ++ (l.drop a).take o).length = a + o := by rw [← e1, List.length_take]; omega
  rw [l1, List.take_of_length_le (show (l.take a ++ (l.drop a).take o).length ≤ n by omega), List.length_append, l1, List.take_of_length_le (show cs.length ≤ n - (a + o) by omega), e6]
  simp [List.append_assoc]
/-- The cells of a list. -/
def flat {α : Type} (c : α → Array Value) (L : List α) : List Value := L.flatMap fun x => (c x).toList
section
variable {α : Type} {c : α → Array Value} {sz : Nat}
theorem flat_nil : flat c [] = [] := rfl
theorem flat_cons (x : α) (L : List α) : flat c (x :: L) = (c x).toList ++ flat c L := rfl
theorem flat_append (L M : List α) : flat c (L ++ M) = flat c L ++ flat c M := by simp [flat]
theorem flat_one (x : α) : flat c [x] = (c x).toList := by simp [flat]
theorem flat_length (hc : ∀ x, (c x).size = sz) (L : List α) : (flat c L).length = L.length * sz := by
  induction L with
  | nil => simp [flat]
  | cons x L ih => rw [flat_cons, List.length_append, ih, Array.length_toList, hc, List.length_cons, Nat.succ_mul]; omega
theorem flat_get (hc : ∀ x, (c x).size = sz) {L : List α} {i : Nat} {x : α} (h : L[i]? = some x) {j : Nat} (hj : j < sz) : (flat c L)[i * sz + j]? = (c x)[j]? := by
  induction L generalizing i with
  | nil => simp at h
  | cons a L ih =>
    have hl : ((c a).toList).length = sz := by rw [Array.length_toList, hc]
    cases i with
    | zero =>
      simp at h; subst h
      rw [flat_cons, List.getElem?_append_left (by rw [hl]; omega), Nat.zero_mul, Nat.zero_add, Array.getElem?_toList]
    | succ i =>
      have h' : L[i]? = some x := by simpa using h
      rw [flat_cons, List.getElem?_append_right (by rw [hl, Nat.succ_mul]; omega), hl, show (i + 1) * sz + j - sz = i * sz + j from by rw [Nat.succ_mul]; omega]
      exact ih h'
theorem flat_set (hc : ∀ x, (c x).size = sz) : ∀ (L : List α) (i : Nat) (y : α), i < L.length → flat c (L.set i y) = (flat c L).take (i * sz) ++ (c y).toList ++ (flat c L).drop (i * sz + sz)
  | [], i, y, h => by simp at h
  | a :: L, 0, y, _ => by
    have hl : ((c a).toList).length = sz := by rw [Array.length_toList, hc]
    rw [List.set_cons_zero, flat_cons, flat_cons, Nat.zero_mul, List.take_zero, List.nil_append, Nat.zero_add, List.drop_left' hl]
  | a :: L, i + 1, y, h => by
    have hl : ((c a).toList).length = sz := by rw [Array.length_toList, hc]
    have ih := flat_set hc L i y (by simpa using h)
    rw [List.set_cons_succ, flat_cons, flat_cons, ih]
    have e : (i + 1) * sz = sz + i * sz := by rw [Nat.succ_mul]; omega
    rw [e, ← hl, List.take_length_add_append, hl, Nat.add_assoc, ← hl, List.drop_length_add_append, hl]
    simp [List.append_assoc]
theorem flat_mem (L : List α) (u : Value) (h : u ∈ flat c L) : ∃ x ∈ L, u ∈ (c x).toList := by
  unfold flat at h
  obtain ⟨x, hx, hu⟩ := List.mem_flatMap.1 h
  exact ⟨x, hx, hu⟩

/-- Value v is a slice that holds these elements, in a block of the call's own. -/
def Row (w : World) (base : Nat) (e : TypeId) (sz : Nat) (c : α → Array Value) (v : Value) (L : List α) : Prop := w.ownsRow base e sz v L.length (flat c L)
variable {w w' : World} {base : Nat} {e : TypeId} {v : Value} {L : List α}
theorem Row.sl (h : Row w base e sz c v L) : ∃ A cap, v = .slice A L.length cap ∧ L.length ≤ cap ∧ cap ≤ maxLen := by
  obtain ⟨A, cap, e, h1, h2, _⟩ := own_open h
  exact ⟨A, cap, e, h1, h2⟩
theorem Row.sl_pos (h : Row w base e sz c v L) (hn : 0 < L.length) : ∃ g cap, v = .slice (some ⟨g, 0, none⟩) L.length cap ∧ L.length ≤ cap ∧ cap ≤ maxLen ∧ base ≤ g ∧ g < w.heap.size := by
  rcases h.2 with ⟨rfl, h0⟩ | ⟨g, cap, cur, rfl, hg, hh, h1, h2, _⟩
  · omega
  · exact ⟨g, cap, rfl, h1, h2, hg, (Array.getElem?_eq_some_iff.1 hh).1⟩
theorem Row.rng (hc : ∀ x, (c x).size = sz) {g cap n : Nat} (h : Row w base e sz c (.slice (some ⟨g, 0, none⟩) n cap) L) {i : Nat} {x : α} (hi : L[i]? = some x) : Rng w g (i * sz) (c x) := fun j u hu => by
  have hj : j < sz := by rw [← hc x]; exact (Array.getElem?_eq_some_iff.1 hu).1
  have := h.cells (g := g) rfl (i * sz + j) u (by rw [flat_get hc hi hj]; exact hu)
  rwa [addr_add, Nat.zero_add] at this
theorem Row.blk {g cap n : Nat} (h : Row w base e sz c (.slice (some ⟨g, 0, none⟩) n cap) L) : ∃ cur, Blk w g e cur ∧ cur.size = cap * sz ∧ cur.toList.take (L.length * sz) = flat c L ∧ L.length ≤ cap ∧ base ≤ g := by
  rcases h.2 with ⟨h0, _⟩ | ⟨g', cap', cur, h0, hg, hh, h1, h2, h3, h4⟩
  · cases h0
  · injection h0 with e1 e2 e3
    injection e1 with e1
    injection e1 with e1
    subst e1; subst e3
    exact ⟨cur, hh, h3, h4, h1, hg⟩
theorem Row.frozen {g cap n : Nat} (h : Row w base e sz c (.slice (some ⟨g, 0, none⟩) n cap) L) (i : Nat) : w.frozen? ⟨g, i, none⟩ = false := by
  obtain ⟨cur, hb, _⟩ := h.blk
  exact hb.frozen i
theorem Row.rd (h : Row w base e sz c v L) {A : Option Addr} {n cap : Nat} (hv : v = .slice A n cap) : Rd w w.heap.size sz A L.length (flat c L) := by
  subst hv
  obtain ⟨A', cap', e, h1, h2, h3⟩ := own_open h
  injection e with e1 e2 e3
  subst e1; subst e2; subst e3
  exact h3
theorem Row.call (h : Row w base e sz c v L) (hb : Below w.heap.size w w') : Row w' base e sz c v L := ownsRow_below h hb
theorem Row.mono {base' : Nat} (h : Row w base' e sz c v L) (hb : base ≤ base') : Row w base e sz c v L := own_mono h hb
theorem Row.nil : Row w base e sz c (.slice none 0 0) [] := World.ownsRow_nil w base e sz
theorem Row.ge (h : Row w base e sz c v L) : ∀ k, v.ownBlock = some k → base ≤ k ∧ k < w.heap.size := World.ownsRow.lt h
/-- Only the block's contents count. -/
theorem Row.blocks (h : Row w base e sz c v L) (hk : ∀ g cs, Blk w g e cs → Blk w' g e cs) : Row w' base e sz c v L := by
  refine ⟨h.1, ?_⟩
  rcases h.2 with hn | ⟨g, cap, cur, rfl, hb, hg, rest⟩
  · exact .inl hn
  · exact .inr ⟨g, cap, cur, rfl, hb, hk g cur hg, rest⟩
end

/-- Of what was, blocks of these types alone have changed, and none below base. -/
structure Kt (base : Nat) (ts : List TypeId) (w w' : World) : Prop where
  below : Below base w w'
  blk : ∀ g t cs, Blk w g t cs → t ∉ ts → Blk w' g t cs
section
variable {base : Nat} {ts : List TypeId} {w w' w'' : World}
theorem Kt.refl (base : Nat) (ts : List TypeId) (w : World) : Kt base ts w w := ⟨Below.refl _ _, fun _ _ _ h _ => h⟩
theorem Kt.trans (a : Kt base ts w w') (b : Kt base ts w' w'') : Kt base ts w w'' := ⟨a.below.trans b.below, fun g t cs h hn => b.blk g t cs (a.blk g t cs h hn) hn⟩
theorem Kt.of_below (hb : Below w.heap.size w w') (h : base ≤ w.heap.size) : Kt base ts w w' := ⟨hb.mono h, fun _ _ _ h _ => h.below hb h.lt⟩
theorem Kt.more {ts' : List TypeId} (a : Kt base ts w w') (h : ∀ t ∈ ts, t ∈ ts') : Kt base ts' w w' := ⟨a.below, fun g t cs hb hn => a.blk g t cs hb fun hm => hn (h t hm)⟩
theorem Kt.lower {base' : Nat} (a : Kt base' ts w w') (h : base ≤ base') : Kt base ts w w' := ⟨a.below.mono h, a.blk⟩
theorem Kt.drew : Kt base ts w w.drew := ⟨(Below.refl _ _).drew, fun _ _ _ h _ => h⟩
theorem Kt.drewN (n : Nat) : Kt base ts w (w.drewN n) := ⟨below_drewN (Below.refl _ _) n, fun _ _ _ h _ => h⟩
theorem Kt.size (a : Kt base ts w w') : w.heap.size ≤ w'.heap.size := a.below.size
theorem Kt.alloc (o : Obj) (h : base ≤ w.heap.size) : Kt base ts w (w.alloc o) := Kt.of_below ((Below.refl _ _).alloc (Nat.le_refl _) o) h
theorem Blk.call {g : Nat} {t : TypeId} {cs : Array Value} (h : Blk w g t cs) (hb : Below w.heap.size w w') : Blk w' g t cs := h.below hb h.lt
theorem Blk.type_eq {g : Nat} {t t' : TypeId} {cs cs' : Array Value} (h : Blk w g t cs) (h' : Blk w g t' cs') : t = t' ∧ cs = cs' := by
  unfold Blk at h h'
  rw [h] at h'
  injection h' with h1
  injection h1 with h2 h3
  exact ⟨h3, h2⟩
theorem Kt.setCell {g : Nat} {t : TypeId} {cs : Array Value} (hb : Blk w g t cs) (ht : t ∈ ts) (hg : base ≤ g) (i : Nat) (u : Value) : Kt base ts w (w.setCell ⟨g, i, none⟩ u) :=
  ⟨(Below.refl _ _).setCell (p := ⟨g, i, none⟩) hg u, fun g' t' cs' h hn => h.far (p := ⟨g, i, none⟩) (fun e => hn (by
    have e : g' = g := e
    subst e
    rw [(h.type_eq hb).1]; exact ht)) u⟩
theorem Kt.setRow {g : Nat} {t : TypeId} {cs : Array Value} (hb : Blk w g t cs) (ht : t ∈ ts) (hg : base ≤ g) (cs' : Array Value) : Kt base ts w (w.setRow g cs') := by
  refine ⟨⟨rfl, rfl, rfl, by simp [World.setRow], fun k hk => setRow_other w g k _ (by omega)⟩, fun g' t' c' h hn => ?_⟩
  have hne : g' ≠ g := fun e => by
    subst e
    exact hn (by rw [(h.type_eq hb).1]; exact ht)
  unfold Blk at h ⊢
  rw [setRow_other w g g' _ hne]
  exact h
theorem Kt.row {α : Type} {c : α → Array Value} {sz b : Nat} {e : TypeId} {v : Value} {L : List α} (k : Kt base ts w w') (h : Row w b e sz c v L) (hn : e ∉ ts) : Row w' b e sz c v L := h.blocks fun g cs hb => k.blk g e cs hb hn
theorem Kt.trk {w0 : World} {bs : List (Nat × TypeId × Array Value)} (k : Kt base ts w w') (T : Trk w0 w bs) (hbase : w0.heap.size ≤ base) (hn : ∀ g t cs, (g, t, cs) ∈ bs → t ∉ ts) : Trk w0 w' bs :=
  ⟨T.below.trans (k.below.mono hbase), fun g t cs hm => k.blk g t cs (T.blk g t cs hm) (hn g t cs hm)⟩
end

/-- Loads, stores and appends behind names, so that what is known of them is met as it stands. -/
def ldR (ty : TypeId) (x : Value) : Sem Next := do pure (.value (← Instr.loadAt ty x))
def stR (ty : TypeId) (x y : Value) : Sem Next := do Instr.storeAt ty x y; pure .skip
def apd (t ty : TypeId) (s x : Value) : Sem Next := do pure (.value (← Builtin.append_ #[t, t] ty #[s, x]))
section
variable {P : Program} {α : Type} {c : α → Array Value} {sz : Nat} {w w' : World} {base : Nat} {e : TypeId} {v : Value} {L : List α}
theorem run_ldR {b o : Nat} {ty : TypeId} {cs : Array Value} {d : TypeDesc} (hc : Rng w b o cs) (hu : P.underlying ty = some d) (hd : d.isRow = true) (hi : (P.info? ty).map (·.size) = some cs.size) :
    (ldR ty (.pointer (some ⟨b, o, none⟩))).run P w = .ok (.value (.agg cs)) w := by
  unfold ldR
  simp [run_load_arr w b o ty cs d hc hu hd hi]
theorem run_stR {g o : Nat} {t ty : TypeId} {old cells : Array Value} (hg : Blk w g t old) (hi : (P.info? ty).map (·.size) = some cells.size) (ho : o + cells.size ≤ old.size) (h1 : cells.all (·.oneCell') = true) :
    (stR ty (.pointer (some ⟨g, o, none⟩)) (.agg cells)).run P w = .ok .skip (w.setRow g (old.toList.take o ++ cells.toList ++ old.toList.drop (o + cells.size)).toArray) := by
  unfold stR
  simp [Instr.storeAt, Instr.sureAddr, run_storeVar_arr w g o t ty old cells hg hi ho h1]
/-- A fresh block is stored into whole. -/
theorem stR_whole {g : Nat} {t ty : TypeId} {old cells : Array Value} (hg : Blk w g t old) (hb : base ≤ g) (hi : (P.info? ty).map (·.size) = some cells.size) (ho : cells.size = old.size) (h1 : cells.all (·.oneCell') = true) :
    ∃ w', (stR ty (.pointer (some ⟨g, 0, none⟩)) (.agg cells)).run P w = .ok .skip w' ∧ Blk w' g t cells ∧ Fr w w' g none ∧ Kt base [t] w w' := by
  refine ⟨_, run_stR hg hi (by omega) h1, ?_, Fr.refl.row _, Kt.setRow hg (by simp) hb _⟩
  have e : (old.toList.take 0 ++ cells.toList ++ old.toList.drop (0 + cells.size)).toArray = cells := by
    rw [ho, Nat.zero_add, List.drop_of_length_le (by simp)]; simp
  rw [e]
  exact setRow_heap w g _ _ t _ hg
theorem run_apd {t ty : TypeId} {s x v' : Value} (h : (Builtin.append_ #[t, t] ty #[s, x]).run P w = .ok v' w') : (apd t ty s x).run P w = .ok (.value v') w' := by
  unfold apd
  simp [h]
/-- A whole element, or a part of it, is stored. -/
theorem Row.putF (hc : ∀ x, (c x).size = sz) {g cap n : Nat} (h : Row w base e sz c (.slice (some ⟨g, 0, none⟩) n cap) L) {i : Nat} (hi : i < L.length) {x y : α} (hx : L[i]? = some x) (ty : TypeId) (o : Nat) (cells : Array Value)
    (hn : (P.info? ty).map (·.size) = some cells.size) (ho : o + cells.size ≤ sz) (h1 : cells.all (·.oneCell') = true) (hy : (c y).toList = (c x).toList.take o ++ cells.toList ++ (c x).toList.drop (o + cells.size)) {ts : List TypeId} (ht : e ∈ ts) :
    ∃ w', (stR ty (.pointer (some ⟨g, i * sz + o, none⟩)) (.agg cells)).run P w = .ok .skip w' ∧ Row w' base e sz c (.slice (some ⟨g, 0, none⟩) n cap) (L.set i y) ∧ Kt base ts w w' ∧ Fr w w' g none := by
  have hlen : L.length = n := by
    rcases h.2 with ⟨h0, _⟩ | ⟨g', cap', cur, h0, _⟩
    · cases h0
    · injection h0 with _ e2 _; exact e2.symm
  obtain ⟨cur, hb, hcs, htk, hlc, hbg⟩ := h.blk
  have hm : i * sz + sz ≤ L.length * sz := by rw [← Nat.succ_mul]; exact Nat.mul_le_mul_right _ hi
  have hm2 : L.length * sz ≤ cap * sz := Nat.mul_le_mul_right _ hlc
  refine ⟨_, run_stR hb hn (by rw [hcs]; omega) h1, ?_, Kt.setRow hb ht hbg _, Fr.refl.row _⟩
  have hlt : g < w.heap.size := hb.lt
  refine ⟨by rw [flat_length hc], .inr ⟨g, cap, _, by rw [List.length_set, hlen], hbg, setRow_heap w g _ _ e _ hb, by simpa using hlc, ?_, ?_, ?_⟩⟩
  · obtain ⟨_, cap2, e2, _, h5⟩ := Row.sl h
    injection e2 with _ _ e3
    rw [e3]; exact h5
  · have : cur.toList.length = cap * sz := by rw [Array.length_toList, hcs]
    simp only [List.size_toArray, List.length_append, List.length_take, List.length_drop, Array.length_toList, hcs]
    omega
  · rw [List.length_set, flat_set hc L i y hi, ← htk]
    have hcl : cur.toList.length = cap * sz := by rw [Array.length_toList, hcs]
    have hxl : (c x).toList.length = sz := by rw [Array.length_toList, hc]
    have hxs : (c x).toList = (cur.toList.drop (i * sz)).take sz := by
      apply List.ext_getElem?
      intro j
      rw [List.getElem?_take]
      split
      · rename_i hj
        rw [List.getElem?_drop, Array.getElem?_toList, ← flat_get hc hx hj, ← htk, List.getElem?_take, if_pos (by omega)]
      · rename_i hj
        exact List.getElem?_eq_none (by omega)
    rw [hy, hxs]
    have hol : cells.toList.length = cells.size := Array.length_toList
    rw [← hol] at ho ⊢
    exact splice_part cur.toList cells.toList (i * sz) o sz (L.length * sz) ho hm (by omega)
/-- A whole element, or a part of it, is stored. -/
theorem Row.put (hc : ∀ x, (c x).size = sz) {g cap n : Nat} (h : Row w base e sz c (.slice (some ⟨g, 0, none⟩) n cap) L) {i : Nat} (hi : i < L.length) {x y : α} (hx : L[i]? = some x) (ty : TypeId) (o : Nat) (cells : Array Value)
    (hn : (P.info? ty).map (·.size) = some cells.size) (ho : o + cells.size ≤ sz) (h1 : cells.all (·.oneCell') = true) (hy : (c y).toList = (c x).toList.take o ++ cells.toList ++ (c x).toList.drop (o + cells.size)) {ts : List TypeId} (ht : e ∈ ts) :
    ∃ w', (stR ty (.pointer (some ⟨g, i * sz + o, none⟩)) (.agg cells)).run P w = .ok .skip w' ∧ Row w' base e sz c (.slice (some ⟨g, 0, none⟩) n cap) (L.set i y) ∧ Kt base ts w w' := by
  obtain ⟨w', a, b, c, _⟩ := h.putF (P := P) hc hi hx ty o cells hn ho h1 hy ht
  exact ⟨w', a, b, c⟩
/-- One cell of an element is stored. -/
theorem Row.cell (hc : ∀ x, (c x).size = sz) {g cap n : Nat} (h : Row w base e sz c (.slice (some ⟨g, 0, none⟩) n cap) L) {i : Nat} {x y : α} (hx : L[i]? = some x) (o : Nat) (u : Value) (ho : o < sz) (hy : c y = (c x).setIfInBounds o u) {ts : List TypeId} (ht : e ∈ ts) :
    Row (w.setCell ⟨g, i * sz + o, none⟩ u) base e sz c (.slice (some ⟨g, 0, none⟩) n cap) (L.set i y) ∧ Kt base ts w (w.setCell ⟨g, i * sz + o, none⟩ u) := by
  have hi : i < L.length := (List.getElem?_eq_some_iff.1 hx).1
  have hlen : L.length = n := by
    rcases h.2 with ⟨h0, _⟩ | ⟨g', cap', cur, h0, _⟩
    · cases h0
    · injection h0 with _ e2 _; exact e2.symm
  obtain ⟨cur, hb, hcs, htk, hlc, hbg⟩ := h.blk
  subst hlen
  have h2 := (World.ownsRow.stored h (i * sz + o) u).1
  refine ⟨?_, Kt.setCell hb ht hbg _ _⟩
  unfold Row
  rw [List.length_set]
  have e : flat c (L.set i y) = (flat c L).set (i * sz + o) u := by
    rw [flat_set hc L i y hi, hy]
    have hfl := flat_length hc L
    have hm : i * sz + sz ≤ L.length * sz := by rw [← Nat.succ_mul]; exact Nat.mul_le_mul_right _ hi
    apply List.ext_getElem?
    intro j
    have hxl : (c x).toList.length = sz := by rw [Array.length_toList, hc]
    rw [List.getElem?_set]
    by_cases hj1 : j < i * sz
    · rw [List.append_assoc, List.getElem?_append_left (by rw [List.length_take]; omega), List.getElem?_take, if_pos hj1, if_neg (by omega)]
    · by_cases hj2 : j < i * sz + sz
      · obtain ⟨m, rfl⟩ : ∃ m, j = i * sz + m := ⟨j - i * sz, by omega⟩
        rw [List.append_assoc, List.getElem?_append_right (by rw [List.length_take]; omega), List.length_take, Nat.min_eq_left (by omega), Nat.add_sub_cancel_left,
          List.getElem?_append_left (by simp [hc]; omega), Array.getElem?_toList, Array.getElem?_setIfInBounds]
        by_cases ho2 : o = m
        · subst ho2
          rw [if_pos rfl, if_pos rfl, if_pos (by rw [hc]; exact ho), if_pos (by omega)]
        · rw [if_neg ho2, if_neg (by omega), flat_get hc hx (by omega)]
      · rw [List.getElem?_append_right (by simp [hc]; omega), List.getElem?_drop, if_neg (by omega)]
        congr 1
        simp [hc]; omega
  rw [e]
  exact h2
end
end Go.Proofs.Ytgbbhkdaalnchaa
namespace Go.Proofs.Ytgbbhkdaalnchaa
set_option linter.unusedVariables false
set_option linter.unusedSimpArgs false
open Go.RowKit Go
set_option maxRecDepth 100000

section
variable {P : Program} {α : Type} {c : α → Array Value} {sz : Nat} {e : TypeId}
/-- Elements are appended to a row. -/
theorem Row.app (w : World) (t ty : TypeId) (i : TypeInfo) (z : Value) (bytes : Nat) (ht : P.underlying t = some (.slice e)) (hi : P.info? e = some i) (hz : i.zero = some z) (hsize : i.size = sz) (hby : i.bytes = bytes) (hzs : z.cells.size = sz) (hsz : 0 < sz)
    (hc : ∀ x, (c x).size = sz) (h1 : ∀ x, ∀ u ∈ (c x).toList, u.oneCell' = true) {base : Nat} {v : Value} {L : List α} (h : Row w base e sz c v L) {B : Nat} {A : Option Addr} {cap : Nat} {M : List α} (hr : Rd w B sz A M.length (flat c M))
    (hn : L.length + M.length ≤ 1000000) (hbs : bytes ≤ 1000) (hbase : base ≤ w.heap.size) :
    ∃ v' w', (apd t ty v (.slice A M.length cap)).run P w = .ok (.value v') w' ∧ Row w' base e sz c v' (L ++ M) ∧ Kt base [e] w w' ∧ w.grownBy w' v.ownBlock ∧ (v'.ownBlock = v.ownBlock ∨ ∀ b, v'.ownBlock = some b → w.heap.size ≤ b) := by
  obtain ⟨v', w', hrun, h2, h3, h4, h5⟩ := run_append_rowF (P := P) w base t ty e i z sz bytes ht hi hz hsize hby hzs hsz v L.length (flat c L) h B A M.length cap (flat c M) hr
    (fun u hu => by obtain ⟨x, _, hx⟩ := flat_mem M u hu; exact h1 x u hx) (by unfold maxLen; omega) (by
      have : (L.length + M.length) * bytes ≤ 1000000 * 1000 := Nat.mul_le_mul hn hbs
      omega) hbase
  refine ⟨v', w', run_apd hrun, ?_, ⟨h3, fun g t' cs hb hne => ?_⟩, h4, h5⟩
  · unfold Row
    rw [flat_append, List.length_append]
    exact h2
  · unfold Blk at hb ⊢
    rw [h4.block g (Array.getElem?_eq_some_iff.1 hb).1 ?_]
    · exact hb
    · intro e2
      rcases h.2 with ⟨rfl, _⟩ | ⟨g', cap', cur, rfl, _, hg, _⟩
      · simp [Value.ownBlock] at e2
      · have : g = g' := by simpa [Value.ownBlock] using e2
        subst this
        rw [hg] at hb
        injection hb with hb
        injection hb with _ hb
        exact hne (by simp [hb])
end

/-- A place in a list: the first that has it; -1: none. -/
def seek {α : Type} (p : α → Bool) (L : List α) : Int := match L.findIdx? p with | some k => (k : Int) | none => -1
section
variable {α : Type} {p : α → Bool} {L : List α}
theorem seek_none (h : ∀ x ∈ L, p x = false) : seek p L = -1 := by
  unfold seek
  rw [List.findIdx?_eq_none_iff.2 h]
theorem seek_some {k : Nat} {x : α} (hk : L[k]? = some x) (hx : p x = true) (h : ∀ j, j < k → ∀ y, L[j]? = some y → p y = false) : seek p L = k := by
  unfold seek
  obtain ⟨hlt, he⟩ := List.getElem?_eq_some_iff.1 hk
  rw [List.findIdx?_eq_some_iff_getElem.2 ⟨hlt, by rw [he]; exact hx, fun j hj => by simpa using h j hj _ (List.getElem?_eq_getElem (by omega))⟩]
theorem seek_cases (p : α → Bool) (L : List α) : (seek p L = -1 ∧ ∀ x ∈ L, p x = false) ∨ ∃ (k : Nat) (x : α), seek p L = k ∧ L[k]? = some x ∧ p x = true := by
  unfold seek
  cases h : L.findIdx? p with
  | none => exact .inl ⟨rfl, List.findIdx?_eq_none_iff.1 h⟩
  | some k =>
    obtain ⟨hlt, h1, _⟩ := List.findIdx?_eq_some_iff_getElem.1 h
    exact .inr ⟨k, L[k], rfl, List.getElem?_eq_getElem hlt, h1⟩
theorem seek_ge {x : α} (hx : x ∈ L) (hp : p x = true) : ∃ (k : Nat) (y : α), seek p L = k ∧ L[k]? = some y ∧ p y = true := by
  rcases seek_cases p L with ⟨_, h⟩ | h
  · have := h x hx; rw [hp] at this; cases this
  · exact h
end

/-- A tree's node. -/
structure Tn where
  id : Int
  p : Int
def tnA (x : Tn) : Array Value := #[.int .u64 x.id, .int .u64 x.p]
theorem tnA_size (x : Tn) : (tnA x).size = 2 := rfl
theorem tnA_cell (x : Tn) : ∀ u ∈ (tnA x).toList, u.oneCell' = true := by intro u hu; simp [tnA] at hu; rcases hu with rfl | rfl <;> rfl
theorem tnA_all (x : Tn) : (tnA x).all (·.oneCell') = true := Array.all_eq_true_iff_forall_mem.2 fun u hu => tnA_cell x u (by simpa using hu)
/-- A number. -/
def u64A (x : Int) : Array Value := #[.int .u64 x]
theorem u64A_size (x : Int) : (u64A x).size = 1 := rfl
theorem u64A_cell (x : Int) : ∀ u ∈ (u64A x).toList, u.oneCell' = true := by intro u hu; simp [u64A] at hu; subst hu; rfl
/-- A ledger's node. -/
structure Nd where
  id : Int
  p : Int
  r : Nat → Int
def ndA (x : Nd) : Array Value := #[.int .u64 x.id, .int .u64 x.p] ++ rtA x.r
theorem ndA_size (x : Nd) : (ndA x).size = 56 := by simp [ndA, rtA_size]
theorem ndA_0 (x : Nd) : (ndA x)[0]? = some (.int .u64 x.id) := by unfold ndA; rw [Array.getElem?_append_left (by simp)]; rfl
theorem ndA_1 (x : Nd) : (ndA x)[1]? = some (.int .u64 x.p) := by unfold ndA; rw [Array.getElem?_append_left (by simp)]; rfl
theorem ndA_r (x : Nd) (j : Nat) : (ndA x)[2 + j]? = (rtA x.r)[j]? := by
  unfold ndA
  rw [Array.getElem?_append_right (by simp)]
  simp
theorem ndA_r1 (x : Nd) (k : Nat) (hk : k < 54) : (ndA x)[2 + k]? = some (.int .i64 (x.r k)) := by rw [ndA_r, rtA_get _ _ hk]
theorem ndA_cell (x : Nd) : ∀ u ∈ (ndA x).toList, u.oneCell' = true := by
  intro u hu
  simp only [ndA, Array.toList_append, List.mem_append] at hu
  rcases hu with hu | hu
  · simp at hu; rcases hu with rfl | rfl <;> rfl
  · exact Array.all_eq_true_iff_forall_mem.1 (rtA_cell x.r) u (by simpa using hu)
theorem ndA_all (x : Nd) : (ndA x).all (·.oneCell') = true := Array.all_eq_true_iff_forall_mem.2 fun u hu => ndA_cell x u (by simpa using hu)
theorem ndA_set (x : Nd) (k : Nat) (hk : k < 54) (v : Int) : (ndA x).setIfInBounds (2 + k) (.int .i64 v) = ndA { x with r := fset x.r k v } := by
  apply Array.ext_getElem?
  intro i
  rw [Array.getElem?_setIfInBounds]
  by_cases h : 2 + k = i
  · subst h
    rw [if_pos rfl, if_pos (by rw [ndA_size]; omega), ndA_r1 _ _ hk]
    simp [fset]
  · rw [if_neg h]
    match i, h with
    | 0, _ => rw [ndA_0, ndA_0]
    | 1, _ => rw [ndA_1, ndA_1]
    | i + 2, h =>
      rw [show i + 2 = 2 + i from by omega, ndA_r, ndA_r, ← rtA_set x.r k hk v, Array.getElem?_setIfInBounds, if_neg (by omega)]
theorem ndA_put (x : Nd) (f : Nat → Int) : (ndA { x with r := f }).toList = (ndA x).toList.take 2 ++ (rtA f).toList ++ (ndA x).toList.drop (2 + (rtA f).size) := by
  have h : (ndA x).toList.drop (2 + (rtA f).size) = [] := by
    apply List.drop_of_length_le
    rw [Array.length_toList, ndA_size, rtA_size]
    omega
  rw [h]
  simp [ndA]
def Nd.zero : Nd := ⟨0, 0, z0⟩
@[go_sem] theorem ndA_zero : #[.int .u64 0, .int .u64 0, .int .i64 0, .int .i64 0, .int .i64 0, .int .i64 0, .int .i64 0, .int .i64 0, .int .i64 0, .int .i64 0, .int .i64 0, .int .i64 0, .int .i64 0, .int .i64 0, .int .i64 0, .int .i64 0, .int .i64 0, .int .i64 0, .int .i64 0, .int .i64 0, .int .i64 0, .int .i64 0, .int .i64 0, .int .i64 0, .int .i64 0, .int .i64 0, .int .i64 0, .int .i64 0, .int .i64 0, .int .i64 0, .int .i64 0, .int .i64 0, .int .i64 0, .int .i64 0, .int .i64 0, .int .i64 0, .int .i64 0, .int .i64 0, .int .i64 0, .int .i64 0, .int .i64 0, .int .i64 0, .int .i64 0, .int .i64 0, .int .i64 0, .int .i64 0, .int .i64 0, .int .i64 0, .int .i64 0, .int .i64 0, .int .i64 0, .int .i64 0, .int .i64 0, .int .i64 0, .int .i64 0, .int .i64 0] = ndA Nd.zero := by kernel_rfl
/-- What a request took. -/
structure Grt where
  o : Int
  r : Int
  n : Int
  a : Int
  b : Int
def grA (x : Grt) : Array Value := #[.int .i64 x.o, .int .u64 x.r, .int .u64 x.n, .int .i64 x.a, .int .u64 x.b]
theorem grA_size (x : Grt) : (grA x).size = 5 := rfl
theorem grA_cell (x : Grt) : ∀ u ∈ (grA x).toList, u.oneCell' = true := by intro u hu; simp [grA] at hu; rcases hu with rfl | rfl | rfl | rfl | rfl <;> rfl
theorem grA_all (x : Grt) : (grA x).all (·.oneCell') = true := Array.all_eq_true_iff_forall_mem.2 fun u hu => grA_cell x u (by simpa using hu)

theorem infoTn : (Try.prog.info? 136).map (fun i => (i.zero, i.size, i.bytes)) = some (some (.agg #[.int .u64 0, .int .u64 0]), 2, 16) := by kernel_rfl
theorem infoGr : (Try.prog.info? 130).map (fun i => (i.zero, i.size, i.bytes)) = some (some (.agg #[.int .i64 0, .int .u64 0, .int .u64 0, .int .i64 0, .int .u64 0]), 5, 40) := by kernel_rfl
theorem infoNd : (Try.prog.info? 112).map (fun i => (i.zero, i.size, i.bytes)) = some (some (.agg #[.int .u64 0, .int .u64 0, .int .i64 0, .int .i64 0, .int .i64 0, .int .i64 0, .int .i64 0, .int .i64 0, .int .i64 0, .int .i64 0, .int .i64 0, .int .i64 0, .int .i64 0, .int .i64 0, .int .i64 0, .int .i64 0, .int .i64 0, .int .i64 0, .int .i64 0, .int .i64 0, .int .i64 0, .int .i64 0, .int .i64 0, .int .i64 0, .int .i64 0, .int .i64 0, .int .i64 0, .int .i64 0, .int .i64 0, .int .i64 0, .int .i64 0, .int .i64 0, .int .i64 0, .int .i64 0, .int .i64 0, .int .i64 0, .int .i64 0, .int .i64 0, .int .i64 0, .int .i64 0, .int .i64 0, .int .i64 0, .int .i64 0, .int .i64 0, .int .i64 0, .int .i64 0, .int .i64 0, .int .i64 0, .int .i64 0, .int .i64 0, .int .i64 0, .int .i64 0, .int .i64 0, .int .i64 0, .int .i64 0, .int .i64 0]), 56, 448) := by kernel_rfl
theorem infoN64 : (Try.prog.info? 28).map (fun i => (i.zero, i.size, i.bytes)) = some (some (.int .u64 0), 1, 8) := by kernel_rfl
theorem size_tn (x : Tn) : (Try.prog.info? 136).map (·.size) = some (tnA x).size := by rw [tnA_size]; kernel_rfl
theorem size_gr (x : Grt) : (Try.prog.info? 130).map (·.size) = some (grA x).size := by rw [grA_size]; kernel_rfl
theorem size_nd (x : Nd) : (Try.prog.info? 112).map (·.size) = some (ndA x).size := by rw [ndA_size]; kernel_rfl

abbrev RowT (w : World) (base : Nat) (v : Value) (L : List Tn) : Prop := Row w base 136 2 tnA v L
abbrev RowN (w : World) (base : Nat) (v : Value) (L : List Nd) : Prop := Row w base 112 56 ndA v L
abbrev RowG (w : World) (base : Nat) (v : Value) (L : List Grt) : Prop := Row w base 130 5 grA v L
abbrev RowU (w : World) (base : Nat) (v : Value) (L : List Int) : Prop := Row w base 28 1 u64A v L
section
variable {w : World} {base B : Nat} {v : Value} {A : Option Addr} {cap : Nat} (ty : TypeId)
theorem RowT.app {L M : List Tn} (h : RowT w base v L) (hr : Rd w B 2 A M.length (flat tnA M)) (hn : L.length + M.length ≤ 1000000) (hbase : base ≤ w.heap.size) :
    ∃ v' w', (apd 104 ty v (.slice A M.length cap)).run Try.prog w = .ok (.value v') w' ∧ RowT w' base v' (L ++ M) ∧ Kt base [136] w w' := by
  obtain ⟨i0, hi, a1, a2, a3⟩ := info_parts infoTn
  obtain ⟨v', w', k1, k2, k3, _⟩ := Row.app w 104 ty i0 _ 16 Try.underlying104 hi a1 a2 a3 rfl (by decide) tnA_size tnA_cell h (cap := cap) hr hn (by decide) hbase
  exact ⟨v', w', k1, k2, k3⟩
theorem RowN.app {L M : List Nd} (h : RowN w base v L) (hr : Rd w B 56 A M.length (flat ndA M)) (hn : L.length + M.length ≤ 1000000) (hbase : base ≤ w.heap.size) :
    ∃ v' w', (apd 38 ty v (.slice A M.length cap)).run Try.prog w = .ok (.value v') w' ∧ RowN w' base v' (L ++ M) ∧ Kt base [112] w w' ∧ w.grownBy w' v.ownBlock ∧ (v'.ownBlock = v.ownBlock ∨ ∀ b, v'.ownBlock = some b → w.heap.size ≤ b) := by
  obtain ⟨i0, hi, a1, a2, a3⟩ := info_parts infoNd
  exact Row.app w 38 ty i0 _ 448 Try.underlying38 hi a1 a2 a3 rfl (by decide) ndA_size ndA_cell h (cap := cap) hr hn (by decide) hbase
theorem RowG.app {L M : List Grt} (h : RowG w base v L) (hr : Rd w B 5 A M.length (flat grA M)) (hn : L.length + M.length ≤ 1000000) (hbase : base ≤ w.heap.size) :
    ∃ v' w', (apd 39 ty v (.slice A M.length cap)).run Try.prog w = .ok (.value v') w' ∧ RowG w' base v' (L ++ M) ∧ Kt base [130] w w' ∧ w.grownBy w' v.ownBlock ∧ (v'.ownBlock = v.ownBlock ∨ ∀ b, v'.ownBlock = some b → w.heap.size ≤ b) := by
  obtain ⟨i0, hi, a1, a2, a3⟩ := info_parts infoGr
  exact Row.app w 39 ty i0 _ 40 Try.underlying39 hi a1 a2 a3 rfl (by decide) grA_size grA_cell h (cap := cap) hr hn (by decide) hbase
theorem RowU.app {L M : List Int} (h : RowU w base v L) (hr : Rd w B 1 A M.length (flat u64A M)) (hn : L.length + M.length ≤ 1000000) (hbase : base ≤ w.heap.size) :
    ∃ v' w', (apd 43 ty v (.slice A M.length cap)).run Try.prog w = .ok (.value v') w' ∧ RowU w' base v' (L ++ M) ∧ Kt base [28] w w' ∧ w.grownBy w' v.ownBlock ∧ (v'.ownBlock = v.ownBlock ∨ ∀ b, v'.ownBlock = some b → w.heap.size ≤ b) := by
  obtain ⟨i0, hi, a1, a2, a3⟩ := info_parts infoN64
  exact Row.app w 43 ty i0 _ 8 Try.underlying43 hi a1 a2 a3 rfl (by decide) u64A_size u64A_cell h (cap := cap) hr hn (by decide) hbase
/-- A row of one, in a block of its own. -/
theorem rd_one {α : Type} {c : α → Array Value} {sz : Nat} (hc : ∀ x, (c x).size = sz) {g : Nat} {t : TypeId} {x : α} (h : Blk w g t (c x)) : Rd w (g + 1) sz (some ⟨g, 0, none⟩) [x].length (flat c [x]) := by
  refine ⟨flat_length hc [x], fun _ => ⟨g, 0, rfl, by omega, fun j u hu => ?_⟩⟩
  rw [flat_one, Array.getElem?_toList] at hu
  rw [h.cell, Nat.zero_add, hu]
end
section
variable (ρ : Operand → Value) (dst : Option Tmp) (x y z u : Operand) (ty : TypeId) (pos : String) (after : Array Edge) (guard : Option (Nat × Bool))
@[go_sem ↓ high] theorem execOp_ldNd : execOp ρ { dst, op := .load 112 x, type := ty, pos, after, guard } = ldR 112 (ρ x) := by simp [execOp, ldR]
@[go_sem ↓ high] theorem execOp_stNd : execOp ρ { dst, op := .store 112 x y, type := ty, pos, after, guard } = stR 112 (ρ x) (ρ y) := by simp [execOp, stR]
@[go_sem ↓ high] theorem execOp_ldTn : execOp ρ { dst, op := .load 136 x, type := ty, pos, after, guard } = ldR 136 (ρ x) := by simp [execOp, ldR]
@[go_sem ↓ high] theorem execOp_stTn : execOp ρ { dst, op := .store 136 x y, type := ty, pos, after, guard } = stR 136 (ρ x) (ρ y) := by simp [execOp, stR]
@[go_sem ↓ high] theorem execOp_ldGr : execOp ρ { dst, op := .load 130 x, type := ty, pos, after, guard } = ldR 130 (ρ x) := by simp [execOp, ldR]
@[go_sem ↓ high] theorem execOp_stGr : execOp ρ { dst, op := .store 130 x y, type := ty, pos, after, guard } = stR 130 (ρ x) (ρ y) := by simp [execOp, stR]
@[go_sem ↓ high] theorem execOp_apT : execOp ρ { dst, op := .call { callee := .builtin .append, args := #[x, y], argTypes := #[104, 104] }, type := ty, pos, after, guard } = apd 104 ty (ρ x) (ρ y) := by simp [execOp, apd, resolve, invoke, builtin]
@[go_sem ↓ high] theorem execOp_apN : execOp ρ { dst, op := .call { callee := .builtin .append, args := #[x, y], argTypes := #[38, 38] }, type := ty, pos, after, guard } = apd 38 ty (ρ x) (ρ y) := by simp [execOp, apd, resolve, invoke, builtin]
@[go_sem ↓ high] theorem execOp_apG : execOp ρ { dst, op := .call { callee := .builtin .append, args := #[x, y], argTypes := #[39, 39] }, type := ty, pos, after, guard } = apd 39 ty (ρ x) (ρ y) := by simp [execOp, apd, resolve, invoke, builtin]
@[go_sem ↓ high] theorem execOp_apU : execOp ρ { dst, op := .call { callee := .builtin .append, args := #[x, y], argTypes := #[43, 43] }, type := ty, pos, after, guard } = apd 43 ty (ρ x) (ρ y) := by simp [execOp, apd, resolve, invoke, builtin]
end
end Go.Proofs.Ytgbbhkdaalnchaa
namespace Go.Proofs.Ytgbbhkdaalnchaa
set_option linter.unusedVariables false
set_option linter.unusedSimpArgs false
open Go.RowKit Go
set_option maxRecDepth 100000

def bTn0 : Sem Next := do pure (.value (← Instr.build 136 #[]))
def bTn (x y : Value) : Sem Next := do pure (.value (← Instr.build 136 #[(0, x), (1, y)]))
def bNd (x y : Value) : Sem Next := do pure (.value (← Instr.build 112 #[(0, x), (1, y)]))
def bGr (x y z u : Value) : Sem Next := do pure (.value (← Instr.build 130 #[(0, x), (1, y), (2, z), (3, u)]))
section
variable (ρ : Operand → Value) (dst : Option Tmp) (x y z u : Operand) (ty : TypeId) (pos : String) (after : Array Edge) (guard : Option (Nat × Bool))
@[go_sem ↓ high] theorem execOp_bTn0 : execOp ρ { dst, op := .build 136 #[], type := ty, pos, after, guard } = bTn0 := by simp [execOp, bTn0]
@[go_sem ↓ high] theorem execOp_bTn : execOp ρ { dst, op := .build 136 #[(0, x), (1, y)], type := ty, pos, after, guard } = bTn (ρ x) (ρ y) := by simp [execOp, bTn]
@[go_sem ↓ high] theorem execOp_bNd : execOp ρ { dst, op := .build 112 #[(0, x), (1, y)], type := ty, pos, after, guard } = bNd (ρ x) (ρ y) := by simp [execOp, bNd]
@[go_sem ↓ high] theorem execOp_bGr : execOp ρ { dst, op := .build 130 #[(0, x), (1, y), (2, z), (3, u)], type := ty, pos, after, guard } = bGr (ρ x) (ρ y) (ρ z) (ρ u) := by simp [execOp, bGr]
@[go_sem ↓ high] theorem execOp_bs1Tn : execOp ρ { dst, op := .buildSlice 104 1 #[(0, x)], type := ty, pos, after, guard } = bs1 104 (ρ x) := by simp [execOp, bs1]
@[go_sem ↓ high] theorem execOp_bs1Nd : execOp ρ { dst, op := .buildSlice 38 1 #[(0, x)], type := ty, pos, after, guard } = bs1 38 (ρ x) := by simp [execOp, bs1]
@[go_sem ↓ high] theorem execOp_bs1Gr : execOp ρ { dst, op := .buildSlice 39 1 #[(0, x)], type := ty, pos, after, guard } = bs1 39 (ρ x) := by simp [execOp, bs1]
@[go_sem ↓ high] theorem execOp_bs0Nd : execOp ρ { dst, op := .buildSlice 38 0 #[], type := ty, pos, after, guard } = bs0 38 := execOp_bs0 ..
@[go_sem ↓ high] theorem execOp_bs0Gr : execOp ρ { dst, op := .buildSlice 39 0 #[], type := ty, pos, after, guard } = bs0 39 := execOp_bs0 ..
end
section
variable (w : World)
@[go_sem] theorem run_bTn0 : bTn0.run Try.prog w = .ok (.value (.agg (tnA ⟨0, 0⟩))) w := by kernel_rfl
@[go_sem] theorem run_bTn (a b : Int) : (bTn (.int .u64 a) (.int .u64 b)).run Try.prog w = .ok (.value (.agg (tnA ⟨a, b⟩))) w := by kernel_rfl
@[go_sem] theorem run_bNd (a b : Int) : (bNd (.int .u64 a) (.int .u64 b)).run Try.prog w = .ok (.value (.agg (ndA ⟨a, b, z0⟩))) w := by kernel_rfl
@[go_sem] theorem run_bGr (a b c d : Int) : (bGr (.int .i64 a) (.int .u64 b) (.int .u64 c) (.int .i64 d)).run Try.prog w = .ok (.value (.agg (grA ⟨a, b, c, d, 0⟩))) w := by kernel_rfl
@[go_sem] theorem run_bs1Tn (x : Tn) : (bs1 104 (.agg (tnA x))).run Try.prog w = .ok (.value (.slice (some ⟨w.heap.size, 0, none⟩) 1 1)) (w.alloc (.cells (tnA x) 136)) := by kernel_rfl
@[go_sem] theorem run_bs1Nd (x : Nd) : (bs1 38 (.agg (ndA x))).run Try.prog w = .ok (.value (.slice (some ⟨w.heap.size, 0, none⟩) 1 1)) (w.alloc (.cells (ndA x) 112)) := by kernel_rfl
@[go_sem] theorem run_bs1Gr (x : Grt) : (bs1 39 (.agg (grA x))).run Try.prog w = .ok (.value (.slice (some ⟨w.heap.size, 0, none⟩) 1 1)) (w.alloc (.cells (grA x) 130)) := by kernel_rfl
@[go_sem] theorem run_bs0Nd : (bs0 38).run Try.prog w = .ok (.value (.slice (some ⟨w.heap.size, 0, none⟩) 0 0)) (w.alloc (.cells #[] 112)) := by kernel_rfl
@[go_sem] theorem run_bs0Gr : (bs0 39).run Try.prog w = .ok (.value (.slice (some ⟨w.heap.size, 0, none⟩) 0 0)) (w.alloc (.cells #[] 130)) := by kernel_rfl
end
/-- What stands while a new one is put in its place: one place is loose. -/
def gap {α : Type} (t : List α) (k : Nat) (y : α) : List α := t.take k ++ y :: t.drop k
section
variable {α : Type} {t : List α} {k : Nat} {y z : α}
theorem gap_length (h : k ≤ t.length) : (gap t k y).length = t.length + 1 := by simp [gap]; omega
theorem gap_end : gap t t.length y = t ++ [y] := by simp [gap]
theorem gap_get (h : k ≤ t.length) : (gap t k y)[k]? = some y := by
  unfold gap
  rw [List.getElem?_append_right (by simp; omega)]
  simp [List.length_take, Nat.min_eq_left h]
theorem gap_lo {j : Nat} (h : k ≤ t.length) (hj : j < k) : (gap t k y)[j]? = t[j]? := by
  unfold gap
  rw [List.getElem?_append_left (by simp; omega), List.getElem?_take, if_pos hj]
theorem gap_set (h : k ≤ t.length) : (gap t k y).set k z = gap t k z := by
  unfold gap
  rw [List.set_append, if_neg (by simp; omega)]
  simp [List.length_take, Nat.min_eq_left h]
/-- What stands ahead of the loose place is moved up into it. -/
theorem gap_down {x : α} (hx : t[k]? = some x) : gap t (k + 1) x = gap t k x := by
  have h : k < t.length := (List.getElem?_eq_some_iff.1 hx).1
  unfold gap
  rw [List.take_add_one, hx, List.drop_eq_getElem_cons h]
  simp [(List.getElem?_eq_some_iff.1 hx).2]
theorem gap_perm (h : k ≤ t.length) : (gap t k y).Perm (y :: t) := by
  unfold gap
  exact List.perm_middle.trans (List.Perm.cons _ (by rw [List.take_append_drop]))
end
end Go.Proofs.Ytgbbhkdaalnchaa
