/-
  The walk of package event: Take.
-/
import Derived.Test.YtolfnilickfneaaGG
import Derived.Test.YtolfnilickfneaaGB
import Derived.Test.YtolfnilickfneaaGF
namespace Go.Proofs.Ytolfnilickfneaa
set_option linter.unusedVariables false
set_option linter.unusedSimpArgs false
open Go.RowKit

/-- A place's event, the place behind it and an error are answered. -/
def GivesT (x : Ev × Int × Int) (w : World) (e : Ending) (w' : World) : Prop := e = .returned (.tuple #[.agg (evA x.1), .int .i64 x.2.1, .int .i64 x.2.2]) ∧ Below w.heap.size w w'
theorem results_take {fn : Func} {s1 s2 s3 : Nat} (h : fn.results = #[.cell s1 41, .cell s2 3, .tmp s3]) (tmps : Array Value) (g g2 : Nat) (e : Ev) (n err : Int) (w : World) (ht : tmps.getD s1 undef = .pointer (some ⟨g, 0, none⟩)) (ht2 : tmps.getD s2 undef = .pointer (some ⟨g2, 0, none⟩)) (ht3 : tmps.getD s3 undef = .int .i64 err)
    (hb : Blk w g 41 (evA e)) (hb2 : Blk w g2 3 #[.int .i64 n]) : (results fn tmps).run Try.prog w = .ok (.tuple #[.agg (evA e), .int .i64 n, .int .i64 err]) w := by
  obtain ⟨q, -⟩ := hb.rules
  obtain ⟨q2, -⟩ := hb2.rules
  have h1 : tmps[s1]?.getD undef = .pointer (some ⟨g, 0, none⟩) := by rw [← ht]; simp
  have h2 : tmps[s2]?.getD undef = .pointer (some ⟨g2, 0, none⟩) := by rw [← ht2]; simp
  have h3 : tmps[s3]?.getD undef = .int .i64 err := by rw [← ht3]; simp
  simp [results, h, h1, h2, h3, go_sem, q, q2]
set_option maxHeartbeats 1000000 in
theorem etake_out (A : Option Addr) (n cap : Nat) (at_ : Int) (w : World) (hn : n ≤ cap) (hm : cap ≤ maxLen) (a0 : -9223372036854775808 ≤ at_) (a1 : at_ ≤ 9223372036854775807) (h : at_ < 0 ∨ (n : Int) < at_) :
    Calls Try.prog 28 #[.slice A n cap, .int .i64 at_] w (GivesT (Ev.zero, 0, 1) w) := by
  have hm1 : cap ≤ 9223372036854775807 := hm
  rcases h with h | h
  · go_enter Try.func28, Try.ntmps28
    go_wp2_with fail
    refine bodyPost_ret (v := .tuple #[.agg (evA Ev.zero), .int .i64 0, .int .i64 1]) (by simp [results, Try.results28, go_sem]) rfl ⟨rfl, ?_⟩
    go_grown
  · go_enter Try.func28, Try.ntmps28
    go_wp2_with fail
    refine bodyPost_ret (v := .tuple #[.agg (evA Ev.zero), .int .i64 0, .int .i64 1]) (by simp [results, Try.results28, go_sem]) rfl ⟨rfl, ?_⟩
    go_grown
set_option maxHeartbeats 1000000 in
theorem etake_short (A : Option Addr) (n cap m : Nat) (w : World) (hn : n ≤ cap) (hm : cap ≤ maxLen) (h1 : m ≤ n) (h : n < m + 91) :
    Calls Try.prog 28 #[.slice A n cap, .int .i64 m] w (GivesT (Ev.zero, 0, 5) w) := by
  have hm1 : cap ≤ 9223372036854775807 := hm
  go_enter Try.func28, Try.ntmps28
  go_wp2_with fail
  refine bodyPost_ret (v := .tuple #[.agg (evA Ev.zero), .int .i64 0, .int .i64 5]) (by simp [results, Try.results28, go_sem]) rfl ⟨rfl, ?_⟩
  go_grown
theorem etkA8 {w0 w : World} {g4 g5 g2 b o cap : Nat} {l : List Int} {t4 : TypeId} {cs : Array Value} (m : Nat) (T : Trk w0 w [(g4, t4, cs), (g5, 3, #[.int .i64 (m : Int)]), (g2, 42, #[.slice (some ⟨b, o, none⟩) l.length cap])]) (hg : w0.heap.size ≤ g5) (h4 : g4 ≠ g5) (h2 : g2 ≠ g5)
    (hc : ∀ i x, l[i]? = some x → w0.cell? ⟨b, o + i, none⟩ = some (.int .u8 x)) (hb : b < w0.heap.size) (hn : l.length ≤ cap) (hm : cap ≤ maxLen) (hby : ∀ c ∈ l, 0 ≤ c ∧ c ≤ 255) (m2 : Nat) (x : Int) (hm2 : m2 = m + 8) (hx : x = numL ((l.drop m).take 8)) (h : m2 ≤ l.length) :
    Calls Try.prog 57 #[.int .i64 8, .pointer (some ⟨g2, 0, none⟩), .pointer (some ⟨g5, 0, none⟩)] w fun r w' => r = .returned (.int .u64 x) ∧ Trk w0 w' [(g4, t4, cs), (g5, 3, #[.int .i64 (m2 : Int)]), (g2, 42, #[.slice (some ⟨b, o, none⟩) l.length cap])] := by
  subst hm2 hx
  refine (etk8 m (T.perm (cs := [(g5, 3, #[.int .i64 (m : Int)]), (g4, t4, cs), (g2, 42, #[.slice (some ⟨b, o, none⟩) l.length cap])]) (by simp)) hg ⟨h4, h2, trivial⟩ (by simp) hc hb hn hm hby (by omega)).mono ?_
  rintro r w' ⟨rfl, T'⟩
  exact ⟨rfl, T'.perm (by simp)⟩
theorem etkA1 {w0 w : World} {g4 g5 g2 b o cap : Nat} {l : List Int} {t4 : TypeId} {cs : Array Value} (m : Nat) (T : Trk w0 w [(g4, t4, cs), (g5, 3, #[.int .i64 (m : Int)]), (g2, 42, #[.slice (some ⟨b, o, none⟩) l.length cap])]) (hg : w0.heap.size ≤ g5) (h4 : g4 ≠ g5) (h2 : g2 ≠ g5)
    (hc : ∀ i x, l[i]? = some x → w0.cell? ⟨b, o + i, none⟩ = some (.int .u8 x)) (hb : b < w0.heap.size) (hn : l.length ≤ cap) (hm : cap ≤ maxLen) (hby : ∀ c ∈ l, 0 ≤ c ∧ c ≤ 255) (m2 : Nat) (x : Int) (hm2 : m2 = m + 1) (hx : x = numL ((l.drop m).take 1)) (h : m2 ≤ l.length) :
    Calls Try.prog 57 #[.int .i64 1, .pointer (some ⟨g2, 0, none⟩), .pointer (some ⟨g5, 0, none⟩)] w fun r w' => r = .returned (.int .u64 x) ∧ Trk w0 w' [(g4, t4, cs), (g5, 3, #[.int .i64 (m2 : Int)]), (g2, 42, #[.slice (some ⟨b, o, none⟩) l.length cap])] := by
  subst hm2 hx
  refine (etk1 m (T.perm (cs := [(g5, 3, #[.int .i64 (m : Int)]), (g4, t4, cs), (g2, 42, #[.slice (some ⟨b, o, none⟩) l.length cap])]) (by simp)) hg ⟨h4, h2, trivial⟩ (by simp) hc hb hn hm hby (by omega)).mono ?_
  rintro r w' ⟨rfl, T'⟩
  exact ⟨rfl, T'.perm (by simp)⟩
end Go.Proofs.Ytolfnilickfneaa
