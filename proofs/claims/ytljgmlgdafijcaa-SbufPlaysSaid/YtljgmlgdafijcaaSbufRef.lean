/- The contracts of package blockyardref13: numbered bytes, a struct by value. -/
import Derived.Test.YtljgmlgdafijcaaMem
namespace Go.Proofs.Ytljgmlgdafijcaa
open Go.RowKit Go

/-- A slice of numbered bytes, wherever it lies. -/
def NumAt (w : World) (v : Value) (l : List (Int × UInt8)) : Prop :=
  ∃ A cap, v = .slice A l.length cap ∧ l.length ≤ cap ∧ l.length ≤ 1000000 ∧ (A = none → cap = 0) ∧
    (l ≠ [] → ∃ g off, A = some ⟨g, off, none⟩ ∧ g < w.heap.size ∧
      ∀ j x, l[j]? = some x → w.cell? ⟨g, off + j * 2, none⟩ = some (.int .u32 x.1) ∧ w.cell? ⟨g, off + j * 2 + 1, none⟩ = some (.int .u8 (x.2.toNat : Int)))
theorem NumAt.frm {w w' : World} {v : Value} {l : List (Int × UInt8)} (h : NumAt w v l) (hf : Frm [] w w') : NumAt w' v l := by
  obtain ⟨A, cap, hv, h1, h2, h4, h3⟩ := h
  refine ⟨A, cap, hv, h1, h2, h4, fun hne => ?_⟩
  obtain ⟨g, off, ha, hg, hc⟩ := h3 hne
  exact ⟨g, off, ha, Nat.lt_of_lt_of_le hg hf.size, fun j x hx => ⟨(hf.cell (p := ⟨g, off + j * 2, none⟩) hg (by simp)).trans (hc j x hx).1, (hf.cell (p := ⟨g, off + j * 2 + 1, none⟩) hg (by simp)).trans (hc j x hx).2⟩⟩
def refV (room e : Int) (v : Value) : Value := .agg #[.int .i64 room, .int .u32 e, v]
def refUna (e : Int) (l : List (Int × UInt8)) : Int := match l with | [] => e | x :: _ => x.1

theorem runa_any (room e : Int) (v : Value) (l : List (Int × UInt8)) (w : World) (h : NumAt w v l) :
    Calls Try.prog 16 #[.agg #[.int .i64 room, .int .u32 e, v]] w fun en w' => en = .returned (.int .u32 (refUna e l)) ∧ Frm [] w w' := by
  obtain ⟨A, cap, rfl, h1, h2, -, h3⟩ := h
  rcases l with _ | ⟨x, r⟩
  · clear h3
    go_enter Try.func16, Try.ntmps16
    go_wp2_with fail
    go_ret
    exact ⟨rfl, (Frm.refl _ _).alloc _⟩
  · obtain ⟨g, off, rfl, hg, hc⟩ := h3 (by simp)
    have hx := ((hc 0 x rfl).1)
    have hx2 : w.cell? ⟨g, off, none⟩ = some (.int .u32 x.1) := hx
    have hl : ((x :: r).length : Int) = (r.length : Int) + 1 := by simp
    clear h3 hc hx
    go_enter Try.func16, Try.ntmps16
    go_wp2_with fail
    go_ret
    exact ⟨rfl, (Frm.refl _ _).alloc _⟩
end Go.Proofs.Ytljgmlgdafijcaa
