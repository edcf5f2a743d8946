/-
  A map of events by their names (origin and number) in memory: what is put, found, struck and gone through. No function of the program here.
  The walks of package hold: New, Len; Put and Next where there is no hold.
-/
import Derived.Test.YtgbbhkdaalnchaaGC
import Derived.Test.YtgbbhkdaalnchaaFr
import Derived.Test.YtgbbhkdaalnchaaGN
import Derived.Maps.RangeWalk
import Derived.DeepKeys4
import Derived.Test.YtgbbhkdaalnchaaOLa
namespace Go.Proofs.Ytgbbhkdaalnchaa
set_option linter.unusedVariables false
set_option linter.unusedSimpArgs false
open Go.RowKit Go
open Go.ChangeMaps (setBlock heap_setBlock_same heap_setBlock_other)
open Go.MapKept (Stamped stamped_iff stamped_push stamped_erase stamped_empty)
open Go.Maps (Keyed)
set_option maxRecDepth 100000

/-- An event's name. -/
def nmA (o s : Int) : Array Value := #[.int .i64 o, .int .u64 s]
theorem nmA_size (o s : Int) : (nmA o s).size = 2 := rfl
theorem nmA_inj {o s o' s' : Int} (h : (Value.agg (nmA o s)) = .agg (nmA o' s')) : o = o' ∧ s = s' := by
  simp [nmA] at h; exact h
theorem row_nm : (92 : TypeId) < Try.prog.types.size := of_decide_eq_true (by kernel_rfl)
theorem wide_nm : (match Try.prog.underlying 92 with | some (.array _ _) | some (.struct _) => true | _ => false) = true := by kernel_rfl
theorem nm_law : Keyed Try.prog 92 := Keyed.of_law (deep_law_laid laidOut_Try (m := 2) (by omega) row_nm (by kernel_rfl) wide_nm)
theorem und_map : Try.prog.underlying 88 = some (.map 92 32) := by kernel_rfl
theorem cells_nm : Try.prog.cellsOf 92 = 2 := by kernel_rfl
theorem cells_nm0 : Try.prog.cellsOf 3 = 1 := by kernel_rfl
theorem cells_nm1 : Try.prog.cellsOf 28 = 1 := by kernel_rfl
theorem keyType_nm : Try.prog.keyType 92 = true := by kernel_rfl
theorem size_types : ∃ m, Try.prog.types.size = m + 2 := ⟨Try.prog.types.size - 2, (Nat.sub_add_cancel (Nat.le_trans (show 2 ≤ (92 : Nat) by decide) (Nat.le_of_lt row_nm))).symm⟩
/-- The name's numbers are numbers of their kinds. -/
def NmOk (o s : Int) : Prop := (-9223372036854775808 ≤ o ∧ o ≤ 9223372036854775807) ∧ 0 ≤ s ∧ s ≤ 18446744073709551615
theorem wf_nm {o s : Int} (h : NmOk o s) : (Lit.int .i64 o).wf = true ∧ (Lit.int .u64 s).wf = true := by
  obtain ⟨⟨h1, h2⟩, h3, h4⟩ := h
  exact ⟨by simp [Lit.wf, IntKind.min, IntKind.max, IntKind.signed, IntKind.bits]; omega, by simp [Lit.wf, IntKind.min, IntKind.max, IntKind.signed, IntKind.bits]; omega⟩
theorem keyOf_nm {o s : Int} (h : NmOk o s) : ∃ l, keyOf Try.prog 92 (.agg (nmA o s)) = some l := by
  obtain ⟨w1, w2⟩ := wf_nm h
  obtain ⟨m, hm⟩ := size_types
  refine ⟨.string (keyBytes [.int .i64 o, .int .u64 s]), ?_⟩
  unfold keyOf
  simp only [Try.underlying92]
  rw [if_pos (by simp [keyType_nm, Value.formed, Try.underlying92, cells_nm, nmA]), hm]
  unfold Program.keyLits
  simp only [Try.underlying92, Value.cells, nmA]
  rw [if_pos (by rw [cells_nm]; exact ⟨rfl, by simp⟩)]
  simp [List.mapM_cons, List.mapM_nil, cells_nm0, cells_nm1, Program.keyLits, Try.underlying3, Try.underlying28, w1, w2]

/-- An event under its name; an entry. -/
def hkv (e : Ev) : Value × Value := (.agg (nmA e.o e.s), .agg (evA e))
def mkv (x : MapEntry) : Value × Value := (x.key, x.val)
theorem evA_inj {x y : Ev} (h : Value.agg (evA x) = .agg (evA y)) : x = y := by
  obtain ⟨o, s, ⟨d0, d1, d2, d3, d4, d5⟩, k, n, t, a, r, f⟩ := x
  obtain ⟨o', s', ⟨d0', d1', d2', d3', d4', d5'⟩, k', n', t', a', r', f'⟩ := y
  simp [evA] at h ⊢
  simp [h]
theorem hkv_inj {x y : Ev} (h : hkv x = hkv y) : x = y := evA_inj (congrArg Prod.snd h)
/-- Has it this name? -/
def isNm (o s : Int) (e : Ev) : Bool := e.o == o && e.s == s
theorem isNm_iff {o s : Int} {e : Ev} : isNm o s e = true ↔ e.o = o ∧ e.s = s := by simp [isNm]
/-- Block b is a map of the events L by their names. -/
structure HMap (w : World) (b : Nat) (L : List Ev) : Prop where
  ex : ∃ es clock, w.heap[b]? = some (.map es clock) ∧ Stamped es clock ∧ (es.toList.map mkv).Perm (L.map hkv)
  ok : ∀ e ∈ L, NmOk e.o e.s
/-- No two have one name. -/
def NdN (L : List Ev) : Prop := L.Pairwise fun x y => ¬ (x.o = y.o ∧ x.s = y.s)
/-- The event of a name. -/
def lookE (L : List Ev) (o s : Int) : Option Ev := L.find? (isNm o s)
theorem lookE_some {L : List Ev} {o s : Int} {e : Ev} (h : lookE L o s = some e) : e ∈ L ∧ e.o = o ∧ e.s = s :=
  ⟨List.mem_of_find?_eq_some h, isNm_iff.1 (List.find?_some h)⟩
theorem lookE_none {L : List Ev} {o s : Int} (h : lookE L o s = none) : ∀ e ∈ L, ¬ (e.o = o ∧ e.s = s) := fun e he hn => by
  have := List.find?_eq_none.1 h e he
  exact this (isNm_iff.2 hn)
theorem NdN.eq {L : List Ev} (h : NdN L) {x y : Ev} (hx : x ∈ L) (hy : y ∈ L) (h1 : x.o = y.o) (h2 : x.s = y.s) : x = y := by
  induction L with
  | nil => cases hx
  | cons a r ih =>
    obtain ⟨h3, h4⟩ := List.pairwise_cons.1 h
    rcases List.mem_cons.1 hx with rfl | hx' <;> rcases List.mem_cons.1 hy with rfl | hy'
    · rfl
    · exact absurd ⟨h1, h2⟩ (h3 y hy')
    · exact absurd ⟨h1.symm, h2.symm⟩ (h3 x hx')
    · exact ih h4 hx' hy'
theorem NdN.perm {L M : List Ev} (h : NdN L) (p : L.Perm M) : NdN M := (p.pairwise_iff (fun {_ _} hn he => hn ⟨he.1.symm, he.2.symm⟩)).1 h
theorem NdN.look {L : List Ev} (h : NdN L) {e : Ev} (he : e ∈ L) : lookE L e.o e.s = some e := by
  cases hf : lookE L e.o e.s with
  | none => exact absurd ⟨rfl, rfl⟩ (lookE_none hf e he)
  | some x =>
    obtain ⟨h1, h2, h3⟩ := lookE_some hf
    rw [h.eq h1 he h2 h3]
theorem lookE_perm {L M : List Ev} (h : NdN L) (p : L.Perm M) (o s : Int) : lookE M o s = lookE L o s := by
  cases hf : lookE L o s with
  | none =>
    refine List.find?_eq_none.2 fun e he hn => ?_
    exact lookE_none hf e (p.mem_iff.2 he) (isNm_iff.1 hn)
  | some x =>
    obtain ⟨h1, rfl, rfl⟩ := lookE_some hf
    exact (h.perm p).look (p.mem_iff.1 h1)
section
variable {w w' : World} {b : Nat} {L M : List Ev}
theorem HMap.lt (h : HMap w b L) : b < w.heap.size := by
  obtain ⟨es, clock, hb, _⟩ := h.ex
  exact (Array.getElem?_eq_some_iff.1 hb).1
theorem HMap.same (h : HMap w b L) (e : w'.heap[b]? = w.heap[b]?) : HMap w' b L := by
  obtain ⟨es, clock, hb, r⟩ := h.ex
  exact ⟨⟨es, clock, e.trans hb, r⟩, h.ok⟩
theorem HMap.fr {g : Nat} {r : Option Nat} (h : HMap w b L) (f : Fr w w' g r) (h1 : b ≠ g) (h2 : some b ≠ r) : HMap w' b L := h.same (f.block b h.lt h1 h2)
theorem HMap.call (h : HMap w b L) (hb : Below w.heap.size w w') : HMap w' b L := h.same (hb.block b h.lt)
theorem HMap.perm (h : HMap w b L) (p : L.Perm M) : HMap w b M := by
  obtain ⟨es, clock, hb, hs, hp⟩ := h.ex
  exact ⟨⟨es, clock, hb, hs, hp.trans (p.map _)⟩, fun e he => h.ok e (p.mem_iff.2 he)⟩
theorem HMap.ndn (h : HMap w b L) : NdN L := by
  obtain ⟨es, clock, hb, hs, hp⟩ := h.ex
  have h1 := ((stamped_iff _ _).1 hs).2.2
  have h2 : (es.toList.map mkv).Pairwise (fun x y => x.1 ≠ y.1) := List.pairwise_map.2 h1
  have h3 := (hp.pairwise_iff (fun {_ _} hn => Ne.symm hn)).1 h2
  refine (List.pairwise_map.1 h3).imp fun hn he => hn ?_
  simp [hkv, he.1, he.2]
theorem hmap_entry {es : Array MapEntry} (hp : (es.toList.map mkv).Perm (L.map hkv)) {x : MapEntry} (hx : x ∈ es.toList) : ∃ e ∈ L, x.key = .agg (nmA e.o e.s) ∧ x.val = .agg (evA e) := by
  have := hp.mem_iff.1 (List.mem_map.2 ⟨x, hx, rfl⟩)
  obtain ⟨e, he, h2⟩ := List.mem_map.1 this
  simp only [hkv, mkv, Prod.mk.injEq] at h2
  exact ⟨e, he, h2.1.symm, h2.2.symm⟩
theorem hmap_keys {es : Array MapEntry} (hp : (es.toList.map mkv).Perm (L.map hkv)) (hok : ∀ e ∈ L, NmOk e.o e.s) : ∀ x ∈ es.toList, ∃ l, keyOf Try.prog 92 x.key = some l := fun x hx => by
  obtain ⟨e, he, hk, _⟩ := hmap_entry hp hx
  rw [hk]
  exact keyOf_nm (hok e he)
/-- 'make'. -/
theorem HMap.made (w : World) : HMap (w.alloc (.map #[] 0)) w.heap.size [] := ⟨⟨#[], 0, heap_alloc_new w _, stamped_empty 0, List.Perm.refl _⟩, fun _ h => by cases h⟩
theorem evA_zero : evA Ev.zero = #[.int .i64 0, .int .u64 0, .int .u64 0, .int .u64 0, .int .u64 0, .int .u64 0, .int .u64 0, .int .u64 0, .int .u8 0, .int .u64 0, .int .i64 0, .int .i64 0, .int .u64 0, .int .u64 0] := rfl
theorem zero_ev (w : World) : (zeroValue 32).run Try.prog w = .ok (.agg (evA Ev.zero)) w := by kernel_rfl
/-- What a look-up answers. -/
def lookV (r : Option Ev) : Value := .tuple #[.agg (evA (r.getD Ev.zero)), .bool r.isSome]
/-- 'v, ok := m[k]'. -/
theorem HMap.look (h : HMap w b L) {o s : Int} (hk : NmOk o s) : (Instr.lookup 88 (.map (some b)) (.agg (nmA o s)) true).run Try.prog w = .ok (lookV (lookE L o s)) w := by
  have hn := h.ndn
  obtain ⟨es, clock, hb, hs, hp⟩ := h.ex
  obtain ⟨kl, hkl⟩ := keyOf_nm hk
  rcases nm_law.find w hkl es.toList (hmap_keys hp h.ok) with ⟨h1, h2⟩ | ⟨j, e0, h1, h2, h3⟩
  · have hf : lookE L o s = none := List.find?_eq_none.2 fun e he hne => by
      have := hp.mem_iff.2 (List.mem_map.2 ⟨e, he, rfl⟩)
      obtain ⟨x, hx, hxe⟩ := List.mem_map.1 this
      simp only [hkv, mkv, Prod.mk.injEq] at hxe
      obtain ⟨rfl, rfl⟩ := isNm_iff.1 hne
      exact h2 x hx hxe.1
    rw [hf]
    simp [Instr.lookup, run_underlying und_map, MapKept.run_getObj_map hb, nm_law.check w _ hkl, h1, zero_ev, Result.andThen, lookV, evA_zero]
  · obtain ⟨e, he, hek, hev⟩ := hmap_entry hp (List.mem_of_getElem? h2)
    obtain ⟨rfl, rfl⟩ := nmA_inj (hek.symm.trans h3)
    rw [hn.look he]
    simp [Instr.lookup, run_underlying und_map, MapKept.run_getObj_map hb, nm_law.check w _ hkl, h1, Result.andThen, lookV, hev]
theorem fr_setBlock (hlt : b < w.heap.size) (o : Obj) : Fr w (setBlock w b o) b none :=
  ⟨rfl, rfl, rfl, by simp [setBlock], fun k _ hk _ => by simp [setBlock, Ne.symm hk]⟩
/-- 'm[k] = v' of a new name. -/
theorem HMap.put (h : HMap w b L) {e : Ev} (hk : NmOk e.o e.s) (hn : lookE L e.o e.s = none) :
    ∃ w', (Instr.mapUpdate 88 (.map (some b)) (.agg (nmA e.o e.s)) (.agg (evA e))).run Try.prog w = .ok () w' ∧ HMap w' b (L ++ [e]) ∧ Fr w w' b none := by
  obtain ⟨es, clock, hb, hs, hp⟩ := h.ex
  obtain ⟨kl, hkl⟩ := keyOf_nm hk
  rcases nm_law.find w hkl es.toList (hmap_keys hp h.ok) with ⟨h1, h2⟩ | ⟨j, e0, h1, h2, h3⟩
  · refine ⟨setBlock w b (.map (es.push ⟨.agg (nmA e.o e.s), .agg (evA e), clock⟩) (clock + 1)), ?_, ⟨⟨_, _, heap_setBlock_same hb _, stamped_push hs h2, ?_⟩, ?_⟩, fr_setBlock h.lt _⟩
    · simp [Instr.mapUpdate, run_underlying und_map, MapKept.run_getObj_map hb, nm_law.check w false hkl, h1, MapKept.run_setObj_map _ hb, Result.andThen, setBlock]
    · rw [Array.toList_push, List.map_append, List.map_append]
      exact hp.append (List.Perm.refl _)
    · intro x hx
      rcases List.mem_append.1 hx with hx | hx
      · exact h.ok x hx
      · obtain rfl := List.mem_singleton.1 hx; exact hk
  · exfalso
    obtain ⟨e', he', hek, _⟩ := hmap_entry hp (List.mem_of_getElem? h2)
    obtain ⟨h4, h5⟩ := nmA_inj (hek.symm.trans h3)
    exact lookE_none hn e' he' ⟨h4, h5⟩
/-- 'len(m)'. -/
theorem HMap.len (h : HMap w b L) (ty : TypeId) : (Builtin.len_ #[88] ty #[.map (some b)]).run Try.prog w = .ok (.int .i64 L.length) w := by
  obtain ⟨es, clock, hb, hs, hp⟩ := h.ex
  have hl : es.size = L.length := by simpa using hp.length_eq
  simp [Builtin.len_, run_underlying und_map, MapKept.run_getObj_map hb, goInt, Result.andThen, hl]
theorem perm_eraseIdx {α : Type} : ∀ (l : List α) (j : Nat) (x : α), l[j]? = some x → l.Perm (x :: l.eraseIdx j)
  | a :: l, 0, x, h => by simp at h; subst h; exact List.Perm.refl _
  | a :: l, j + 1, x, h => by
    have := perm_eraseIdx l j x (by simpa using h)
    exact (this.cons a).trans (List.Perm.swap x a _)
  | [], _, _, h => by simp at h
theorem erase_kv {es : Array MapEntry} {j : Nat} {e0 : MapEntry} (hj : es.toList[j]? = some e0) : (es.eraseIdxIfInBounds j).toList = es.toList.eraseIdx j ∧ es.toList.Perm (e0 :: es.toList.eraseIdx j) := by
  have hjl : j < es.toList.length := (List.getElem?_eq_some_iff.1 hj).1
  constructor
  · unfold Array.eraseIdxIfInBounds
    rw [dif_pos (by simpa using hjl)]
    simp
  · exact perm_eraseIdx _ _ _ hj
/-- 'delete(m, k)' of an event that is there. -/
theorem HMap.drop (h : HMap w b L) {e : Ev} (he : e ∈ L) (ty : TypeId) :
    ∃ w' L', (Builtin.delete_ #[88, 92] ty #[.map (some b), .agg (nmA e.o e.s)]).run Try.prog w = .ok (.tuple #[]) w' ∧ L.Perm (e :: L') ∧ HMap w' b L' ∧ Fr w w' b none := by
  have hn := h.ndn
  have hlt := h.lt
  obtain ⟨es, clock, hb, hs, hp⟩ := h.ex
  obtain ⟨kl, hkl⟩ := keyOf_nm (h.ok e he)
  have hpe : L.Perm (e :: L.erase e) := List.perm_cons_erase he
  rcases nm_law.find w hkl es.toList (hmap_keys hp h.ok) with ⟨h1, h2⟩ | ⟨j, e0, h1, h2, h3⟩
  · exfalso
    obtain ⟨x, hx, hxe⟩ := List.mem_map.1 (hp.mem_iff.2 (List.mem_map.2 ⟨e, he, rfl⟩))
    simp only [hkv, mkv, Prod.mk.injEq] at hxe
    exact h2 x hx hxe.1
  · obtain ⟨e', he', hek, hev⟩ := hmap_entry hp (List.mem_of_getElem? h2)
    obtain ⟨h4, h5⟩ := nmA_inj (hek.symm.trans h3)
    obtain rfl := hn.eq he' he h4 h5
    obtain ⟨k1, k2⟩ := erase_kv h2
    refine ⟨setBlock w b (.map (es.eraseIdxIfInBounds j) clock), L.erase e', ?_, hpe, ⟨⟨_, _, heap_setBlock_same hb _, stamped_erase hs j, ?_⟩, fun x hx => h.ok x (List.mem_of_mem_erase hx)⟩, fr_setBlock hlt _⟩
    · simp [Builtin.delete_, run_underlying und_map, MapKept.run_getObj_map hb, nm_law.check w _ hkl, h1, MapKept.run_setObj_map _ hb, Result.andThen, setBlock]
    · rw [k1]
      have p1 := (k2.map mkv).symm.trans (hp.trans (hpe.map hkv))
      simp only [List.map_cons] at p1
      rw [show mkv e0 = hkv e' by simp [mkv, hkv, hek, hev]] at p1
      exact p1.cons_inv
/-- Of entries no two of which were born at once: one more is told. -/
theorem filter_more : ∀ (l : List MapEntry) (p q : MapEntry → Bool) (e0 : MapEntry), (l.map (·.born)).Nodup → e0 ∈ l → p e0 = false → (∀ x ∈ l, q x = (p x || x.born == e0.born)) → (l.filter q).Perm (e0 :: l.filter p)
  | [], _, _, _, _, he, _, _ => by cases he
  | a :: l, p, q, e0, hn, he, hp, hq => by
    simp only [List.map_cons, List.nodup_cons] at hn
    have hqa := hq a (by simp)
    rcases List.mem_cons.1 he with rfl | he'
    · have h1 : l.filter q = l.filter p := List.filter_congr fun x hx => by
        rw [hq x (by simp [hx])]
        have : (x.born == e0.born) = false := by
          rw [beq_eq_false_iff_ne]
          exact fun e => hn.1 (e ▸ List.mem_map.2 ⟨x, hx, rfl⟩)
        rw [this, Bool.or_false]
      rw [List.filter_cons, List.filter_cons, hqa, hp, h1]
      simp
    · have ih := filter_more l p q e0 hn.2 he' hp (fun x hx => hq x (by simp [hx]))
      have hne : (a.born == e0.born) = false := by
        rw [beq_eq_false_iff_ne]
        exact fun e => hn.1 (e ▸ List.mem_map.2 ⟨e0, he', rfl⟩)
      rw [hne, Bool.or_false] at hqa
      rw [List.filter_cons, List.filter_cons, hqa]
      split
      · exact (ih.cons a).trans (List.Perm.swap e0 a _)
      · exact ih
theorem leftOf_list (es : Array MapEntry) (seen : Array Nat) : (leftOf es seen).toList = es.toList.filter fun x => !seen.contains x.born := by
  unfold leftOf
  rw [← Array.toList_filter]
theorem filter_two {α : Type} (p : α → Bool) : ∀ l : List α, l.Perm (l.filter (fun x => !p x) ++ l.filter p)
  | [] => List.Perm.refl _
  | a :: l => by
    have ih := filter_two p l
    cases h : p a
    · simp only [List.filter_cons, h, Bool.not_false, if_true, Bool.false_eq_true, if_false, List.cons_append]
      exact ih.cons a
    · simp only [List.filter_cons, h, Bool.not_true, if_true, Bool.false_eq_true, if_false]
      exact (ih.cons a).trans List.perm_middle.symm
/-- Block r goes through the map in block b: these are still to come, those are kept that came. -/
structure HRange (w : World) (b r : Nat) (left kept : List Ev) : Prop where
  ex : ∃ es clock since seen c0, w.heap[b]? = some (.map es clock) ∧ Stamped es clock ∧ w.heap[r]? = some (.mapIter (some b) since seen c0) ∧ (∀ x ∈ es.toList, x.born < since) ∧ since ≤ c0 ∧ since ≤ clock ∧
    ((es.toList.filter fun x => !seen.contains x.born).map mkv).Perm (left.map hkv) ∧ ((es.toList.filter fun x => seen.contains x.born).map mkv).Perm (kept.map hkv)
  ok : ∀ e ∈ left ++ kept, NmOk e.o e.s
variable {r : Nat} {left kept : List Ev}
theorem HRange.map (h : HRange w b r left kept) : HMap w b (left ++ kept) := by
  obtain ⟨es, clock, since, seen, c0, hb, hs, hr, h1, h2, h3, h4, h5⟩ := h.ex
  refine ⟨⟨es, clock, hb, hs, ?_⟩, h.ok⟩
  have := (filter_two (fun x : MapEntry => seen.contains x.born) es.toList).map mkv
  rw [List.map_append] at this ⊢
  exact this.trans (h4.append h5)
theorem HRange.lt (h : HRange w b r left kept) : r < w.heap.size := by
  obtain ⟨es, clock, since, seen, c0, hb, hs, hr, _⟩ := h.ex
  exact (Array.getElem?_eq_some_iff.1 hr).1
theorem HRange.ne (h : HRange w b r left kept) : r ≠ b := fun e => by
  obtain ⟨es, clock, since, seen, c0, hb, hs, hr, _⟩ := h.ex
  subst e
  rw [hr] at hb
  cases hb
theorem HRange.same (h : HRange w b r left kept) (e1 : w'.heap[b]? = w.heap[b]?) (e2 : w'.heap[r]? = w.heap[r]?) : HRange w' b r left kept := by
  obtain ⟨es, clock, since, seen, c0, hb, hs, hr, h1⟩ := h.ex
  exact ⟨⟨es, clock, since, seen, c0, e1.trans hb, hs, e2.trans hr, h1⟩, h.ok⟩
theorem HRange.call (h : HRange w b r left kept) (hb : Below w.heap.size w w') : HRange w' b r left kept := h.same (hb.block b h.map.lt) (hb.block r h.lt)
/-- 'range m'. -/
theorem HMap.range (h : HMap w b L) : ∃ w', (Instr.range 88 (.map (some b))).run Try.prog w = .ok (.pointer (some ⟨w.heap.size, 0, none⟩)) w' ∧ HRange w' b w.heap.size L [] ∧ Below w.heap.size w w' ∧ w'.heap.size = w.heap.size + 1 := by
  have hlt := h.lt
  obtain ⟨es, clock, hb, hs, hp⟩ := h.ex
  refine ⟨_, run_range_map w _ _ _ b es clock und_map hb, ⟨⟨es, clock, clock, #[], clock, ?_, hs, heap_alloc_new w _, ((stamped_iff _ _).1 hs).1, Nat.le_refl _, Nat.le_refl _, ?_, ?_⟩, ?_⟩, (Below.refl _ _).alloc (Nat.le_refl _) _, by simp⟩
  · rw [(MapKept.heap_alloc w _).2 b hlt]; exact hb
  · rw [List.filter_eq_self.2 (fun x _ => by simp)]; exact hp
  · simp
  · simpa using h.ok
/-- A step: nothing is left, or one that is left comes. -/
theorem HRange.next (h : HRange w b r left kept) (ty : TypeId) :
    (left = [] ∧ (Instr.next (.pointer (some ⟨r, 0, none⟩)) false ty).run Try.prog w = .ok (.tuple #[.bool false]) w) ∨
    ∃ e left' w', left.Perm (e :: left') ∧ (Instr.next (.pointer (some ⟨r, 0, none⟩)) false ty).run Try.prog w = .ok (.tuple #[.bool true, .agg (nmA e.o e.s), .agg (evA e)]) w' ∧
      HRange w' b r left' (e :: kept) ∧ Fr w w' r none ∧ (Instr.entry (.pointer (some ⟨r, 0, none⟩))).run Try.prog w' = .ok (.tuple #[.agg (nmA e.o e.s), .agg (evA e)]) w' := by
  have hne := h.ne
  have hlt := h.lt
  obtain ⟨es, clock, since, seen, c0, hb, hs, hr, hold, hsc, hsk, hl, hk⟩ := h.ex
  have hst := (stamped_iff es clock).1 hs
  rcases run_next_at (P := Try.prog) w ty r b since c0 seen es clock hr hb hold hsc with ⟨h0, hrun⟩ | ⟨e0, he0, w1, hal, hrun⟩
  · refine .inl ⟨?_, hrun⟩
    have : (leftOf es seen).toList.length = 0 := by simpa using h0
    rw [leftOf_list] at this
    have h1 := hl.length_eq
    simp only [List.length_map] at h1
    exact List.eq_nil_of_length_eq_zero (by omega)
  · obtain ⟨hem, hes⟩ := mem_left he0
    have hmem : mkv e0 ∈ left.map hkv := hl.mem_iff.1 (List.mem_map.2 ⟨e0, List.mem_filter.2 ⟨hem, by rw [hes]; rfl⟩, rfl⟩)
    obtain ⟨e, he, hee⟩ := List.mem_map.1 hmem
    have hpe : left.Perm (e :: left.erase e) := List.perm_cons_erase he
    have hk0 : e0.key = .agg (nmA e.o e.s) := (congrArg Prod.fst hee).symm
    have hv0 : e0.val = .agg (evA e) := (congrArg Prod.snd hee).symm
    have hr1 : w1.heap[r]? = some (.mapIter (some b) since seen c0) := by rcases hal with rfl | rfl <;> exact hr
    have hb1 : w1.heap[b]? = some (.map es clock) := by rcases hal with rfl | rfl <;> exact hb
    have hset := MapKept.heap_set (o' := .mapIter (some b) since (seen.push e0.born) clock) hr1
    have hb' : (setBlock w1 r (.mapIter (some b) since (seen.push e0.born) clock)).heap[b]? = some (.map es clock) := (hset.2 b (fun e1 => hne e1.symm)).trans hb1
    have hmore := filter_more es.toList (fun x => seen.contains x.born) (fun x => (seen.push e0.born).contains x.born) e0 hst.2.1 hem hes (fun x _ => contains_push ..)
    have hless := filter_more es.toList (fun x => !(seen.push e0.born).contains x.born) (fun x => !seen.contains x.born) e0 hst.2.1 hem (by simp) (fun x _ => by
      rw [contains_push]
      by_cases hx : x.born = e0.born
      · rw [hx, hes]; simp
      · rw [show (x.born == e0.born) = false from beq_eq_false_iff_ne.2 hx]; simp)
    rw [hk0, hv0] at hrun
    refine .inr ⟨e, left.erase e, _, hpe, hrun, ⟨⟨es, clock, since, seen.push e0.born, clock, hb', hs, hset.1, hold, hsk, hsk, ?_, ?_⟩, ?_⟩, ?_, ?_⟩
    · have p1 := (hless.map mkv).symm.trans (hl.trans (hpe.map hkv))
      simp only [List.map_cons] at p1
      rw [← hee] at p1
      exact p1.cons_inv
    · have p1 := (hmore.map mkv)
      simp only [List.map_cons] at p1 ⊢
      rw [hee]
      exact p1.trans (hk.cons _)
    · intro x hx
      refine h.ok x ?_
      simp only [List.mem_append, List.mem_cons] at hx ⊢
      rcases hx with hx | rfl | hx
      · exact .inl (List.mem_of_mem_erase hx)
      · exact .inl he
      · exact .inr hx
    · rcases hal with rfl | rfl <;> exact ⟨rfl, rfl, rfl, by simp [setBlock], fun k _ hk _ => hset.2 k hk⟩
    · rw [← hk0, ← hv0]
      exact run_entry_at _ r b since seen es clock e0 hset.1 hb' hem hst.2.1
/-- 'delete(m, k)' of the one that came. -/
theorem HRange.drop {e : Ev} (h : HRange w b r left (e :: kept)) (ty : TypeId) :
    ∃ w', (Builtin.delete_ #[88, 92] ty #[.map (some b), .agg (nmA e.o e.s)]).run Try.prog w = .ok (.tuple #[]) w' ∧ HRange w' b r left kept ∧ Fr w w' b none := by
  have hne := h.ne
  have hM := h.map
  obtain ⟨es, clock, since, seen, c0, hb, hs, hr, hold, hsc, hsk, hl, hk⟩ := h.ex
  have hst := (stamped_iff es clock).1 hs
  have hok : NmOk e.o e.s := h.ok e (by simp)
  obtain ⟨kl, hkl⟩ := keyOf_nm hok
  -- the entry that came
  obtain ⟨x, hx, hxe⟩ := List.mem_map.1 (hk.mem_iff.2 (List.mem_map.2 ⟨e, by simp, rfl⟩))
  obtain ⟨hx1, hx2⟩ := List.mem_filter.1 hx
  have hxk : x.key = .agg (nmA e.o e.s) := congrArg Prod.fst hxe
  obtain ⟨es2, clock2, hb2, hs2, hp2⟩ := hM.ex
  rw [hb] at hb2
  injection hb2 with hb2
  injection hb2 with e1 e2
  subst e1; subst e2
  rcases nm_law.find w hkl es.toList (hmap_keys hp2 hM.ok) with ⟨h1, h2⟩ | ⟨j, e0, h1, h2, h3⟩
  · exact absurd hxk (h2 x hx1)
  · obtain rfl : e0 = x := entry_eq_of_key hst.2.2 (List.mem_of_getElem? h2) hx1 (h3.trans hxk.symm)
    obtain ⟨k1, k2⟩ := erase_kv h2
    refine ⟨setBlock w b (.map (es.eraseIdxIfInBounds j) clock), ?_, ⟨⟨_, _, since, seen, c0, heap_setBlock_same hb _, stamped_erase hs j, (heap_setBlock_other hb _ hne).trans hr, fun y hy => hold y ?_, hsc, hsk, ?_, ?_⟩, fun y hy => h.ok y ?_⟩, fr_setBlock hM.lt _⟩
    · simp [Builtin.delete_, run_underlying und_map, MapKept.run_getObj_map hb, nm_law.check w _ hkl, h1, MapKept.run_setObj_map _ hb, Result.andThen, setBlock]
    · rw [k1] at hy
      exact (List.eraseIdx_sublist _ _).subset hy
    · rw [k1]
      have p1 := k2.filter (fun x => !seen.contains x.born)
      rw [List.filter_cons, if_neg (by rw [hx2]; simp)] at p1
      exact (p1.symm.map mkv).trans hl
    · rw [k1]
      have p1 := k2.filter (fun x => seen.contains x.born)
      rw [List.filter_cons, if_pos hx2] at p1
      have p2 := (p1.symm.map mkv).trans hk
      simp only [List.map_cons] at p2
      rw [hxe] at p2
      exact p2.cons_inv
    · simp only [List.mem_append, List.mem_cons] at hy ⊢
      rcases hy with hy | hy
      · exact .inl hy
      · exact .inr (.inr hy)
end
end Go.Proofs.Ytgbbhkdaalnchaa
namespace Go.Proofs.Ytgbbhkdaalnchaa
set_option linter.unusedVariables false
set_option linter.unusedSimpArgs false
open Go.RowKit Go
set_option maxRecDepth 100000

/-- A hold at block h, its map at block m. -/
structure HO (w : World) (h m : Nat) (L : List Ev) : Prop where
  blk : Blk w h 90 #[.map (some m)]
  map : HMap w m L
section
variable {w w' : World} {h m : Nat} {L L' : List Ev}
theorem HO.ne (H : HO w h m L) : h ≠ m := fun e => by
  subst e
  obtain ⟨es, clock, hb, _⟩ := H.map.ex
  have := H.blk
  unfold Blk at this
  rw [this] at hb
  cases hb
theorem HO.call (H : HO w h m L) (hb : Below w.heap.size w w') : HO w' h m L := ⟨H.blk.below hb H.blk.lt, H.map.call hb⟩
theorem HO.perm (H : HO w h m L) (p : L.Perm L') : HO w h m L' := ⟨H.blk, H.map.perm p⟩
theorem HO.fr {g : Nat} {r : Option Nat} (H : HO w h m L) (f : Fr w w' g r) (h1 : h ≠ g) (h2 : some h ≠ r) (h3 : m ≠ g) (h4 : some m ≠ r) : HO w' h m L := ⟨f.blk H.blk h1 h2, H.map.fr f h3 h4⟩
/-- The map has turned. -/
theorem HO.turn (H : HO w h m L) (f : Fr w w' m none) (hm : HMap w' m L') : HO w' h m L' := ⟨f.blk H.blk H.ne (by simp), hm⟩
/-- A new hold. -/
def NewHold (w w' : World) (u : Value) : Prop := ∃ h m, u = .pointer (some ⟨h, 0, none⟩) ∧ HO w' h m [] ∧ w.heap.size ≤ h ∧ w.heap.size ≤ m ∧ Below w.heap.size w w'
theorem hnew (w : World) : Calls Try.prog 13 #[] w fun r w' => ∃ u, r = .returned u ∧ NewHold w w' u := by
  have hmm := @run_makeMap Try.prog
  go_enter Try.func13, Try.ntmps13
  go_wp2_with fail
  go_ret
  refine ⟨_, rfl, w.heap.size + 1, w.heap.size, by simp, ⟨Blk.new_at (by simp) rfl, (HMap.made w).call ((Below.refl _ _).alloc (Nat.le_refl _) _)⟩, by omega, by omega, ((Below.refl _ _).alloc (Nat.le_refl _) _).alloc (by simp) _⟩
theorem hlen_nil (w : World) : Calls Try.prog 15 #[.pointer none] w fun r w' => r = .returned (.int .i64 0) ∧ w = w' := by
  go_enter Try.func15, Try.ntmps15
  go_wp2_with fail
  go_ret
  exact ⟨rfl, rfl⟩
theorem hlen (H : HO w h m L) : Calls Try.prog 15 #[.pointer (some ⟨h, 0, none⟩)] w fun r w' => r = .returned (.int .i64 L.length) ∧ w = w' := by
  obtain ⟨q, -⟩ := H.blk.rules
  have hl := fun ty => H.map.len ty
  go_enter Try.func15, Try.ntmps15
  go_wp2_with fail
  go_ret
  exact ⟨rfl, rfl⟩
theorem hput_nil (v : Vec) (e : Ev) (w : World) : Calls Try.prog 14 #[.pointer none, .agg (vecA v), .agg (evA e)] w fun r w' => r = .returned (.int .i64 2) ∧ Below w.heap.size w w' := by
  go_enter Try.func14, Try.ntmps14
  go_wp2_with fail
  go_ret
  exact ⟨rfl, ((Below.refl _ _).alloc (Nat.le_refl _) _).alloc (by simp) _⟩
theorem hnext_nil (v : Vec) (w : World) : Calls Try.prog 16 #[.pointer none, .agg (vecA v)] w fun r w' => r = .returned (.tuple #[.agg (evA Ev.zero), .bool false]) ∧ Below w.heap.size w w' := by
  go_enter Try.func16, Try.ntmps16
  go_wp2_with fail
  refine bodyPost_ret (v := .tuple #[.agg (evA Ev.zero), .bool false]) (by simp [results, Try.results16, go_sem]) rfl ⟨rfl, ?_⟩
  exact ((Below.refl _ _).alloc (Nat.le_refl _) _).alloc (by simp) _
end
end Go.Proofs.Ytgbbhkdaalnchaa
