/- How the buffer and the reference stand beside each other in memory. -/
import Derived.Test.YtljgmlgdafijcaaSbufRefPlain
import Derived.Test.YtljgmlgdafijcaaSbufGreat
namespace Go.Proofs.Ytljgmlgdafijcaa
open Go.RowKit Go

theorem NumAt.far {w w' : World} {v : Value} {l : List (Int × UInt8)} {g0 : Nat} {t : TypeId} {cs : Array Value} (h : NumAt w v l) (hf : Frm [g0] w w') (hb : Blk w g0 t cs)
    (hno : ∀ (i : Nat) (x : Int), cs[i]? ≠ some (Value.int .u8 x)) : NumAt w' v l := by
  obtain ⟨A, cap, hv, h1, h2, h4, h3⟩ := h
  refine ⟨A, cap, hv, h1, h2, h4, fun hne => ?_⟩
  obtain ⟨g, off, ha, hg, hc⟩ := h3 hne
  have hgg : g ≠ g0 := by
    rintro rfl
    obtain ⟨x, r, rfl⟩ := List.exists_cons_of_ne_nil hne
    have h5 := (hc 0 x rfl).2
    rw [hb.cell] at h5
    exact hno _ _ h5
  exact ⟨g, off, ha, Nat.lt_of_lt_of_le hg hf.size, fun j x hx => ⟨(hf.cell (p := ⟨g, off + j * 2, none⟩) hg (by simpa using hgg)).trans (hc j x hx).1, (hf.cell (p := ⟨g, off + j * 2 + 1, none⟩) hg (by simpa using hgg)).trans (hc j x hx).2⟩⟩
def refC (room e : Int) (v : Value) : Array Value := #[.int .i64 room, .int .u32 e, v]
theorem refC_no {room e : Int} {w : World} {v : Value} {l : List (Int × UInt8)} (h : NumAt w v l) (i : Nat) (x : Int) : (refC room e v)[i]? ≠ some (Value.int .u8 x) := by
  obtain ⟨A, cap, rfl, -⟩ := h
  unfold refC
  rcases i with _ | _ | _ | i <;> simp
theorem sbC_no (b : SB) (i : Nat) (x : Int) : b.cells[i]? ≠ some (Value.int .u8 x) := by
  unfold SB.cells
  rcases i with _ | _ | _ | i <;> simp
structure PS (w wr : World) (G1 G2 : Nat) (b : SB) (room e : Int) (v : Value) (l : List (Int × UInt8)) : Prop where
  frm : Frm [] w wr
  sb : Blk wr G1 45 b.cells
  rf : Blk wr G2 36 (refC room e v)
  num : NumAt wr v l
  sr : SR b room e l
  g1 : w.heap.size ≤ G1
  g2 : w.heap.size ≤ G2
theorem PS.frm_ {w wr w' : World} {G1 G2 : Nat} {b : SB} {room e : Int} {v : Value} {l : List (Int × UInt8)} (h : PS w wr G1 G2 b room e v l) (hf : Frm [] wr w') : PS w w' G1 G2 b room e v l :=
  ⟨h.frm.next0 hf, h.sb.frm hf (by simp), h.rf.frm hf (by simp), h.num.frm hf, h.sr, h.g1, h.g2⟩
theorem PS.next {w wr w2 w3 w4 : World} {G1 G2 : Nat} {b b' : SB} {room e e' : Int} {v v' : Value} {l l' : List (Int × UInt8)} (h : PS w wr G1 G2 b room e v l) (hf2 : Frm [] wr w2) (hn : NumAt w2 v' l')
    (hf3 : Frm [G2] w2 w3) (hb3 : Blk w3 G2 36 (refC room e' v')) (hf4 : Frm [G1] w3 w4) (hb4 : Blk w4 G1 45 b'.cells) (hsr : SR b' room e' l') : PS w w4 G1 G2 b' room e' v' l' := by
  have h2 := h.frm_ hf2
  have hne : G1 ≠ G2 := Blk.ne_ h2.sb h2.rf (by decide)
  have hs3 := h2.sb.frm hf3 (by simpa using hne)
  have hn3 := NumAt.far hn hf3 h2.rf fun i x => refC_no h2.num i x
  exact ⟨(h2.frm.next1 hf3 (.inr h.g2)).next1 hf4 (.inr h.g1), hb4, hb3.frm hf4 (by simpa using Ne.symm hne), NumAt.far hn3 hf4 hs3 (sbC_no b), hsr, h.g1, h.g2⟩
theorem PS.rules {w wr : World} {G1 G2 : Nat} {b : SB} {room e : Int} {v : Value} {l : List (Int × UInt8)} (h : PS w wr G1 G2 b room e v l) :
    wr.cell? ⟨G2, 0, none⟩ = some (.int .i64 room) ∧ wr.cell? ⟨G2, 1, none⟩ = some (.int .u32 e) ∧ wr.cell? ⟨G2, 2, none⟩ = some v ∧
    wr.frozen? ⟨G2, 0, none⟩ = false ∧ wr.frozen? ⟨G2, 1, none⟩ = false ∧ wr.frozen? ⟨G2, 2, none⟩ = false ∧ G2 < wr.heap.size :=
  ⟨h.rf.cell 0, h.rf.cell 1, h.rf.cell 2, h.rf.frozen 0, h.rf.frozen 1, h.rf.frozen 2, h.rf.lt⟩
end Go.Proofs.Ytljgmlgdafijcaa
