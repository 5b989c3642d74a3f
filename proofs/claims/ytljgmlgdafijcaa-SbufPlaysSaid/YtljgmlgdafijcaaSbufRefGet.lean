/- The reference's Get. -/
import Derived.Test.YtljgmlgdafijcaaSbufRef
namespace Go.Proofs.Ytljgmlgdafijcaa
open Go.RowKit Go

/-- From place i on, what is appended to s. -/
def rgetIn (m : Int) (l : List (Int × UInt8)) (s : List UInt8) : List UInt8 :=
  match l with
  | [] => s
  | x :: r => if (s.length : Int) < m then rgetIn m r (s ++ [x.2]) else s
def rgetOut (seq m : Int) : List (Int × UInt8) → List UInt8 → List UInt8
  | [], s => s
  | x :: r, s => if x.1 = seq then rgetOut seq m r (rgetIn m (x :: r) s) else rgetOut seq m r s
/-- It takes a piece of the data. -/
theorem rgetIn_eq (m : Int) : ∀ (l : List (Int × UInt8)) (s : List UInt8), rgetIn m l s = s ++ (l.map (·.2)).take (m - s.length).toNat := by
  intro l
  induction l with
  | nil => intro s; simp [rgetIn]
  | cons x r ih =>
    intro s
    unfold rgetIn
    by_cases h : (s.length : Int) < m
    · rw [if_pos h, ih]
      obtain ⟨q, hq⟩ : ∃ q, (m - s.length).toNat = q + 1 := ⟨(m - s.length).toNat - 1, by omega⟩
      have h2 : (m - ((s ++ [x.2]).length : Nat)).toNat = q := by rw [List.length_append]; simp; omega
      rw [h2, hq]
      simp
    · rw [if_neg h]
      have : (m - s.length).toNat = 0 := by omega
      rw [this]
      simp
end Go.Proofs.Ytljgmlgdafijcaa
