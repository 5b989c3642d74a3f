/- What the reference's Put does, in plain words. No walk in sight. -/
import Derived.Test.YtjfamjaebehieaaRbufRef
namespace Go.Proofs.Ytjfamjaebehieaa
open Go.RowKit Go

def rone (nx W : Int) (h : List (Int × UInt8)) (x : Int) (c : UInt8) : List (Int × UInt8) := if inB x nx W = true ∧ fndI x h 0 < 0 then h ++ [(x, c)] else h
def rmany (nx W seq : Int) (h : List (Int × UInt8)) (l : List UInt8) : Nat → List (Int × UInt8)
  | 0 => h
  | i + 1 => rone nx W (rmany nx W seq h l i) ((seq + (i : Nat)) % 4294967296) (l.getD i 0)
theorem rone_len (nx W : Int) (h : List (Int × UInt8)) (x : Int) (c : UInt8) : (rone nx W h x c).length ≤ h.length + 1 := by
  unfold rone
  split
  · simp
  · omega
theorem rmany_len (nx W seq : Int) (h : List (Int × UInt8)) (l : List UInt8) : ∀ i, (rmany nx W seq h l i).length ≤ h.length + i
  | 0 => Nat.le_refl _
  | i + 1 => Nat.le_trans (rone_len _ _ _ _ _) (by have := rmany_len nx W seq h l i; omega)
/-- How the second loop stands. -/
structure RS where
  nx : Int
  rd : List UInt8
  h : List (Int × UInt8)
def RS.at_ (s : RS) : Int := fndI s.nx s.h 0
def RS.step (s : RS) : RS := ⟨(s.nx + 1) % 4294967296, s.rd ++ [(s.h.getD s.at_.toNat (0, 0)).2], s.h.take s.at_.toNat ++ s.h.drop (s.at_.toNat + 1)⟩
def RS.it (s : RS) : Nat → RS
  | 0 => s
  | k + 1 => (s.it k).step
theorem fndI_at (x : Int) (l : List (Int × UInt8)) : ∀ (i0 : Int), 0 ≤ i0 → 0 ≤ fndI x l i0 → ∃ (i : Nat) (c : UInt8), fndI x l i0 = i0 + (i : Int) ∧ l[i]? = some (x, c) := by
  induction l with
  | nil => intro i0 _ h; exact absurd (show (0 : Int) ≤ -1 from h) (by decide)
  | cons y r ih =>
    intro i0 h0 h
    by_cases he : y.1 = x
    · refine ⟨0, y.2, ?_, ?_⟩
      · show (if y.1 = x then i0 else _) = _
        rw [if_pos he]; simp
      · rw [← he]; rfl
    · have h2 : fndI x (y :: r) i0 = fndI x r (i0 + 1) := if_neg he
      rw [h2] at h ⊢
      obtain ⟨i, c, h3, h4⟩ := ih (i0 + 1) (by omega) h
      exact ⟨i + 1, c, by rw [h3]; omega, by rw [List.getElem?_cons_succ]; exact h4⟩
theorem fndI_none (x : Int) (l : List (Int × UInt8)) : ∀ (i0 : Int), 0 ≤ i0 → fndI x l i0 < 0 → ∀ y ∈ l, y.1 ≠ x := by
  induction l with
  | nil => intro i0 _ _ y hy; cases hy
  | cons z r ih =>
    intro i0 h0 h y hy
    by_cases he : z.1 = x
    · have h2 : fndI x (z :: r) i0 = i0 := if_pos he
      omega
    · have h2 : fndI x (z :: r) i0 = fndI x r (i0 + 1) := if_neg he
      rw [h2] at h
      rcases List.mem_cons.1 hy with rfl | hy
      · exact he
      · exact ih (i0 + 1) (by omega) h y hy
theorem fndI_neg (x : Int) (l : List (Int × UInt8)) : ∀ (i0 : Int), (∀ y ∈ l, y.1 ≠ x) → fndI x l i0 = -1 := by
  induction l with
  | nil => intro i0 _; rfl
  | cons z r ih =>
    intro i0 h
    have h2 : fndI x (z :: r) i0 = fndI x r (i0 + 1) := if_neg (h z (List.mem_cons_self ..))
    rw [h2]
    exact ih _ fun y hy => h y (List.mem_cons_of_mem _ hy)
theorem fndI_pos (x : Int) (l : List (Int × UInt8)) (h : ∃ y ∈ l, y.1 = x) : 0 ≤ fndI x l 0 := by
  rcases (by omega : 0 ≤ fndI x l 0 ∨ fndI x l 0 < 0) with h1 | h1
  · exact h1
  · obtain ⟨y, hy, he⟩ := h
    exact absurd he (fndI_none x l 0 (by omega) h1 y hy)
theorem RS.step_at {s : RS} {i : Nat} {c : UInt8} (h1 : s.at_ = (i : Int)) (h2 : s.h[i]? = some (s.nx, c)) : s.step = ⟨(s.nx + 1) % 4294967296, s.rd ++ [c], s.h.take i ++ s.h.drop (i + 1)⟩ := by
  unfold RS.step
  rw [h1, Int.toNat_natCast, List.getD_eq_getElem?_getD, h2]
  rfl
theorem RS.step_len {s : RS} (h : 0 ≤ s.at_) : s.step.h.length + 1 = s.h.length := by
  obtain ⟨i, c, h1, h2⟩ := fndI_at s.nx s.h 0 (by omega) h
  have hi : i < s.h.length := (List.getElem?_eq_some_iff.1 h2).1
  rw [RS.step_at (i := i) (c := c) (by unfold RS.at_; rw [h1]; omega) h2]
  show (s.h.take i ++ s.h.drop (i + 1)).length + 1 = _
  rw [List.length_append, List.length_take, List.length_drop]
  omega
def RputPost (base : Nat) (room nx seq : Int) (rd : List UInt8) (h : List (Int × UInt8)) (l : List UInt8) (w : World) (en : Ending) (w' : World) : Prop :=
  ∃ (s0 : RS) (k : Nat) (v' : Value), s0 = ⟨nx, rd, rmany nx (room - rd.length) seq h l (min l.length 65536)⟩ ∧ (s0.it k).at_ < 0 ∧ (∀ j, j < k → 0 ≤ (s0.it j).at_) ∧
    en = .returned (.tuple #[.agg #[.int .i64 room, .int .u32 (s0.it k).nx, .string ⟨(s0.it k).rd.toArray⟩, v'], .int .i64 (k : Nat)]) ∧ Own base w' v' (s0.it k).h ∧ Frm [] w w'
end Go.Proofs.Ytjfamjaebehieaa
