/- The law's own helpers: syn, how, same. -/
import Derived.Test.YtpmlojgngcllfaaConnSend
namespace Go.Proofs.Ytpmlojgngcllfaa
open Go.RowKit Go

/-- A list of segments, as a slice. -/
def SegsAt (w : World) (v : Value) (l : List Sg) : Prop :=
  ∃ b cap, v = .slice (some ⟨b, 0, none⟩) l.length cap ∧ l.length ≤ cap ∧ l.length ≤ 1000000000 ∧ ∀ j u, (segs l)[j]? = some u → w.cell? ⟨b, j, none⟩ = some u

theorem segs_get : ∀ (l : List Sg) (k : Nat) (s : Sg), l[k]? = some s → ∀ i, i < 8 → (segs l)[k * 8 + i]? = s.cells[i]?
  | [], _, _, h, _, _ => by cases h
  | a :: l, 0, s, h, i, hi => by
    have e : a = s := by simpa using h
    subst e
    show (a.cells ++ segs l)[0 * 8 + i]? = _
    rw [List.getElem?_append_left (by show 0 * 8 + i < 8; omega), Nat.zero_mul, Nat.zero_add]
  | a :: l, k + 1, s, h, i, hi => by
    show (a.cells ++ segs l)[(k + 1) * 8 + i]? = _
    rw [List.getElem?_append_right (by show 8 ≤ _; omega)]
    have e : (k + 1) * 8 + i - a.cells.length = k * 8 + i := by show (k + 1) * 8 + i - 8 = _; omega
    rw [e]
    exact segs_get l k s (by simpa using h) i hi

theorem syn_any (w : World) : Calls Try.prog 26 #[] w fun e w' => e = .returned (.agg #[.int .i64 9, .int .i64 10, .int .u32 100, .int .u32 0, .int .i64 2, .int .i64 1000, .int .i64 100, .string ⟨#[]⟩]) ∧ Frm [] w w' := by
  go_enter Try.func26, Try.ntmps26
  go_wp2
  refine bodyPost_ret (v := .agg #[.int .i64 9, .int .i64 10, .int .u32 100, .int .u32 0, .int .i64 2, .int .i64 1000, .int .i64 100, .string ⟨#[]⟩]) (by simp [results, Try.results26, go_sem]) rfl ⟨rfl, ?_⟩
  exact (Frm.refl _ _).alloc _
theorem how_any (w : World) : Calls Try.prog 28 #[] w fun e w' => e = .returned (.agg #[.int .i64 10, .int .i64 2, .int .i64 60, .int .i64 3, .int .i64 5]) ∧ Frm [] w w' := by
  go_enter Try.func28, Try.ntmps28
  go_wp2
  refine bodyPost_ret (v := .agg #[.int .i64 10, .int .i64 2, .int .i64 60, .int .i64 3, .int .i64 5]) (by simp [results, Try.results28, go_sem]) rfl ⟨rfl, ?_⟩
  exact (Frm.refl _ _).alloc _

set_option maxRecDepth 100000 in
set_option maxHeartbeats 1000000 in
theorem same_any (v u : Value) (l : List Sg) (w : World) (hv : SegsAt w v l) (hu : SegsAt w u l) :
    Calls Try.prog 30 #[v, u] w fun e w' => e = .returned (.bool true) ∧ Drw w w' := by
  obtain ⟨b, cap, rfl, h1, h2, h3⟩ := hv
  obtain ⟨b', cap', rfl, h1', h2', h3'⟩ := hu
  have hl : l.length ≤ 1000000000 := by omega
  go_enter Try.func30, Try.ntmps30
  go_wp2_with fail
  go_loopw [5] (fun i wr => ∃ k : Nat, k ≤ l.length ∧ i = .int .i64 (k : Int) ∧ Drw w wr) (fun i _ => l.length - (intOf i).toNat)
  case atStart => exact ⟨0, Nat.zero_le _, rfl, Drw.refl _⟩
  case round =>
    obtain ⟨k, hk, rfl, hd⟩ := hrel
    by_cases hlt : k < l.length
    · obtain ⟨s, hs⟩ : ∃ s, l[k]? = some s := ⟨l[k], List.getElem?_eq_getElem hlt⟩
      have hc : ∀ i u, s.cells[i]? = some u → wr.cell? ⟨b, k * 8 + i, none⟩ = some u ∧ wr.cell? ⟨b', k * 8 + i, none⟩ = some u := fun i u hi => by
        have hi8 : i < 8 := (List.getElem?_eq_some_iff.1 hi).1
        rw [hd.cell, hd.cell]
        exact ⟨h3 _ u ((segs_get l k s hs i hi8).trans hi), h3' _ u ((segs_get l k s hs i hi8).trans hi)⟩
      obtain ⟨x0, y0⟩ := hc 0 _ rfl
      obtain ⟨x1, y1⟩ := hc 1 _ rfl
      obtain ⟨x2, y2⟩ := hc 2 _ rfl
      obtain ⟨x3, y3⟩ := hc 3 _ rfl
      obtain ⟨x4, y4⟩ := hc 4 _ rfl
      obtain ⟨x5, y5⟩ := hc 5 _ rfl
      obtain ⟨x6, y6⟩ := hc 6 _ rfl
      obtain ⟨x7, y7⟩ := hc 7 _ rfl
      have l0 : (0 : Int) ≤ (k : Int) := by omega
      have l1 : (k : Int) < (l.length : Int) := by omega
      have l2 : (l.length : Int) ≤ (cap : Int) := by omega
      have l3 : (l.length : Int) ≤ (cap' : Int) := by omega
      simp only [Nat.add_zero] at x0 y0
      clear hc hs h3 h3'
      go_wp2_with fail
      go_quiet (fail)
      go_wp2_with fail
      go_roundw
      case rel => exact ⟨k + 1, by omega, by go_num, hd.trans (Drw.mk _ _)⟩
      case measure => simp [intOf]; omega
    · go_wp2_with fail
      go_ret
      exact ⟨rfl, hd⟩

end Go.Proofs.Ytpmlojgngcllfaa
