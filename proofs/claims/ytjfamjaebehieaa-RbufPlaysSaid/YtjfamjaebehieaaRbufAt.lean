/- A buffer that is new since a world: its operations, one by one. -/
import Derived.Test.YtjfamjaebehieaaRbufNew
import Derived.Test.YtjfamjaebehieaaRbufPut
namespace Go.Proofs.Ytjfamjaebehieaa
open Go.RowKit Go

/-- All of the buffer's blocks are from B on; beyond B, w is w0. -/
def RbAt (B : Nat) (w0 w : World) (g : Nat) (r : RB) : Prop :=
  ∃ gd gh rv, RbIn w B g gd gh rv r ∧ B ≤ g ∧ B ≤ gd ∧ B ≤ gh ∧ B ≤ w.heap.size ∧ Below B w0 w ∧ r.Ok

theorem frm_below {B : Nat} {ex : List Nat} {w0 w w' : World} (h : Below B w0 w) (hB : B ≤ w.heap.size) (hf : Frm ex w w') (hx : ∀ i, i ∈ ex → B ≤ i) : Below B w0 w' :=
  h.trans (hf.below hB hx)
theorem rat_new (next : Int) (room : Nat) (w : World) (h1 : 1 ≤ room) (h2 : room ≤ 2048) (n1 : 0 ≤ next) (n2 : next < 4294967296) :
    Calls Try.prog 9 #[.int .u32 next, .int .i64 (room : Int)] w fun e w' => ∃ g, e = .returned (.tuple #[.pointer (some ⟨g, 0, none⟩), .int .i64 0]) ∧ RbAt w.heap.size w w' g (RB.start room next) :=
  (rnew_ok next room w h1 h2).mono fun e w' ⟨g, gd, gh, he, b1, b2, b3, hin, hf⟩ => ⟨g, he, gd, gh, _, hin, b1, b2, b3, hf.size, hf.below (Nat.le_refl _) (by simp), RB.start_ok h1 h2 n1 n2⟩
theorem rat_put {B g : Nat} {r : RB} {w0 : World} (seq : Int) (l : List UInt8) (w : World) (hl : l.length ≤ maxLen) (h : RbAt B w0 w g r) :
    Calls Try.prog 10 #[.pointer (some ⟨g, 0, none⟩), .int .u32 seq, .string ⟨l.toArray⟩] w fun e w' => e = .returned (.int .i64 (r.putN seq l : Nat)) ∧ RbAt B w0 w' g (r.put seq l) := by
  obtain ⟨gd, gh, rv, hin, b1, b2, b3, hB, hbl, ho⟩ := h
  refine (rput_in seq l w hl ho hB hin).mono ?_
  rintro e w' ⟨rfl, rv', hin', hf, hob⟩
  refine ⟨rfl, gd, gh, rv', hin', b1, b2, b3, Nat.le_trans hB hf.size, frm_below hbl hB hf (fun i hi => ?_), ho.put seq l⟩
  simp only [fp, List.mem_cons, Option.mem_toList] at hi
  rcases hi with rfl | rfl | rfl | hi
  · exact b1
  · exact b2
  · exact b3
  · exact (own_lt hin.own hi).2
theorem rat_read {B g : Nat} {r : RB} {w0 : World} (n : Int) (w : World) (h : RbAt B w0 w g r) :
    Calls Try.prog 12 #[.pointer (some ⟨g, 0, none⟩), .int .i64 n] w fun e w' => e = .returned (.string ⟨(r.ready.take (r.take n)).toArray⟩) ∧ RbAt B w0 w' g (r.read n) := by
  obtain ⟨gd, gh, rv, hin, b1, b2, b3, hB, hbl, ho⟩ := h
  refine (rread_in n w ho hB hin).mono ?_
  rintro e w' ⟨rfl, rv', hin', hf, hob⟩
  refine ⟨rfl, gd, gh, rv', hin', b1, b2, b3, Nat.le_trans hB hf.size, frm_below hbl hB hf (fun i hi => ?_), ho.read n⟩
  have : i = g := by simpa using hi
  omega
theorem rat_ready {B g : Nat} {r : RB} {w0 : World} (w : World) (h : RbAt B w0 w g r) :
    Calls Try.prog 13 #[.pointer (some ⟨g, 0, none⟩)] w fun e w' => e = .returned (.int .i64 (r.ready.length : Int)) ∧ w = w' := by
  obtain ⟨gd, gh, rv, hin, -, -, -, -, -, ho⟩ := h
  exact rready_in w ho hin
theorem rat_next {B g : Nat} {r : RB} {w0 : World} (w : World) (h : RbAt B w0 w g r) :
    Calls Try.prog 14 #[.pointer (some ⟨g, 0, none⟩)] w fun e w' => e = .returned (.int .u32 r.next) ∧ w = w' := by
  obtain ⟨gd, gh, rv, hin, -, -, -, -, -, ho⟩ := h
  exact rnext_in w ho hin
theorem RbAt.drw {B g : Nat} {r : RB} {w0 w w' : World} (h : RbAt B w0 w g r) (d : Drw w w') : RbAt B w0 w' g r := by
  obtain ⟨gd, gh, rv, hin, b1, b2, b3, hB, hbl, ho⟩ := h
  exact ⟨gd, gh, rv, hin.drw d, b1, b2, b3, Nat.le_trans hB d.frm.size, frm_below hbl hB d.frm (by simp), ho⟩
theorem rat_window {B g : Nat} {r : RB} {w0 : World} (w : World) (h : RbAt B w0 w g r) :
    Calls Try.prog 15 #[.pointer (some ⟨g, 0, none⟩)] w fun e w' => e = .returned (.int .i64 (r.win : Nat)) ∧ Drw w w' := by
  obtain ⟨gd, gh, rv, hin, -, -, -, -, -, ho⟩ := h
  exact rwindow_in w ho hin
/-- What is new beside it does not touch it. -/
theorem RbAt.frm {B g : Nat} {r : RB} {w0 w w' : World} (h : RbAt B w0 w g r) (hf : Frm [] w w') : RbAt B w0 w' g r := by
  obtain ⟨gd, gh, rv, hin, b1, b2, b3, hB, hbl, ho⟩ := h
  exact ⟨gd, gh, rv, hin.frm hf (by simp) (by simp) (by simp) (by simp), b1, b2, b3, Nat.le_trans hB hf.size, frm_below hbl hB hf (by simp), ho⟩
theorem RbAt.below {B g : Nat} {r : RB} {w0 w : World} (h : RbAt B w0 w g r) : Below B w0 w := by
  obtain ⟨_, _, _, _, _, _, _, _, hbl, _⟩ := h
  exact hbl
theorem RbAt.size {B g : Nat} {r : RB} {w0 w : World} (h : RbAt B w0 w g r) : B ≤ w.heap.size := by
  obtain ⟨_, _, _, _, _, _, _, hB, _, _⟩ := h
  exact hB
theorem RbAt.ok {B g : Nat} {r : RB} {w0 w : World} (h : RbAt B w0 w g r) : r.Ok := by
  obtain ⟨_, _, _, _, _, _, _, _, _, ho⟩ := h
  exact ho

end Go.Proofs.Ytjfamjaebehieaa
