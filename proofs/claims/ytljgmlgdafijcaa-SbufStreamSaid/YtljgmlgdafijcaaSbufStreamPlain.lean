/- Plain laws for SbufStream. No walk in sight. -/
import Derived.Test.YtljgmlgdafijcaaSbufPlain
namespace Go.Proofs.Ytljgmlgdafijcaa

/-- The buffer holds what was written from gone on, each byte at its number. -/
structure SI (una n : Int) (A : List UInt8) (g : Nat) (b : SB) : Prop where
  ok : b.Ok
  le : g ≤ A.length
  room : b.room = n
  una : b.una = (una + g) % 4294967296
  s : b.s = A.drop g

theorem SI.len {una n : Int} {A : List UInt8} {g : Nat} {b : SB} (h : SI una n A g b) : (b.s.length : Int) = (A.length : Int) - g := by
  have := h.le
  rw [h.s, List.length_drop]
  omega
theorem SI.write {una n : Int} {A : List UInt8} {g : Nat} {b : SB} (h : SI una n A g b) (l : List UInt8) :
    SI una n (A ++ l.take (b.fits l)) g (b.write l) ∧ b.fits l ≤ l.length ∧ (if n - ((A.length : Int) - g) < l.length then n - ((A.length : Int) - g) else (l.length : Int)) = ((b.fits l : Nat) : Int) := by
  have hl := h.len
  have hr := h.room
  have hle := h.le
  have h1 := h.ok.l1
  refine ⟨⟨h.ok.write l, by rw [List.length_append]; omega, h.room, h.una, ?_⟩, by unfold SB.fits; omega, ?_⟩
  · show b.s ++ _ = _
    rw [h.s, List.drop_append_of_le_length hle]
  · unfold SB.fits
    split <;> omega
theorem SI.ack {una n : Int} {A : List UInt8} {g N : Nat} {b : SB} (h : SI una n A g b) (hN : (N : Int) < 4294967296) :
    b.gone (((una + g) % 4294967296 + N) % 4294967296) = (if g + N ≤ A.length then N else 0) ∧ SI una n A (g + if g + N ≤ A.length then N else 0) (b.ack (((una + g) % 4294967296 + N) % 4294967296)) := by
  have hl := h.len
  have hle := h.le
  have ha : ahd b.una (((una + g) % 4294967296 + N) % 4294967296) = N := by rw [h.una]; exact ahd_add (by omega) hN
  constructor
  · unfold SB.gone
    rw [ha]
    by_cases hc : g + N ≤ A.length
    · rw [if_pos (by omega), if_pos hc]; simp
    · rw [if_neg (by omega), if_neg hc]
  · have hok := h.ok.ack (n := ((una + g) % 4294967296 + N) % 4294967296) (by omega) (by omega)
    by_cases hc : g + N ≤ A.length
    · rw [if_pos hc]
      by_cases h0 : N = 0
      · subst h0
        have e : b.ack (((una + g) % 4294967296 + (0 : Nat)) % 4294967296) = b := by unfold SB.ack; rw [ha, if_neg (by omega)]
        rw [e]
        exact h
      · have e : b.ack (((una + g) % 4294967296 + N) % 4294967296) = { b with s := b.s.drop N, una := ((una + g) % 4294967296 + N) % 4294967296 } := by
          unfold SB.ack; rw [ha, if_pos (by omega)]; simp
        refine ⟨hok, hc, ?_, ?_, ?_⟩
        · rw [e]; exact h.room
        · rw [e]; simp only; omega
        · rw [e]; show b.s.drop N = _; rw [h.s, List.drop_drop]
    · rw [if_neg hc]
      have e : b.ack (((una + g) % 4294967296 + N) % 4294967296) = b := by unfold SB.ack; rw [ha, if_neg (by omega)]
      rw [e]
      exact h
theorem SI.ack' {una n : Int} {A : List UInt8} {g N : Nat} {b : SB} (h : SI una n A g b) (hN : (N : Int) < 4294967296) :
    b.gone ((una + g + N) % 4294967296) = (if g + N ≤ A.length then N else 0) ∧ SI una n A (g + if g + N ≤ A.length then N else 0) (b.ack ((una + g + N) % 4294967296)) := by
  have := h.ack hN
  rw [show ((una + g) % 4294967296 + (N : Int)) % 4294967296 = (una + g + N) % 4294967296 from by omega] at this
  exact this
theorem SI.get {una n : Int} {A : List UInt8} {g N : Nat} {b : SB} (h : SI una n A g b) (m : Int) (hN : N < 400) (hA : A.length ≤ 20000) :
    b.get ((una + ((g + N : Nat) : Int)) % 4294967296) m = if g + N < A.length ∧ 0 < m then (A.drop (g + N)).take (min A.length (g + N + (min m 100000).toNat) - (g + N)) else [] := by
  have hl := h.len
  have hle := h.le
  have ha : ahd b.una ((una + ((g + N : Nat) : Int)) % 4294967296) = N := by rw [h.una]; unfold ahd; omega
  unfold SB.get
  rw [ha]
  by_cases hc : g + N < A.length ∧ 0 < m
  · rw [if_pos hc, if_neg (by omega), h.s, List.drop_drop, Int.toNat_natCast]
    have hll : (A.drop (g + N)).length = A.length - (g + N) := List.length_drop
    rcases Nat.lt_or_ge (A.length - (g + N)) m.toNat with h1 | h1
    · rw [List.take_of_length_le (by omega), List.take_of_length_le (by omega)]
    · rw [show min A.length (g + N + (min m 100000).toNat) - (g + N) = m.toNat from by omega]
  · rw [if_neg hc, if_pos (by omega)]
theorem SI.end_ {una n : Int} {A : List UInt8} {g : Nat} {b : SB} (h : SI una n A g b) : (b.una + b.s.length) % 4294967296 = (una + A.length) % 4294967296 := by
  rw [h.len, h.una]
  omega
theorem SI.all {una n : Int} {A : List UInt8} {g : Nat} {b : SB} (h : SI una n A g b) : b.get b.una 3000 = A.drop g := by
  have h1 := h.ok.l1
  have h2 := h.ok.r2
  unfold SB.get
  rw [ahd_self]
  by_cases h0 : b.s.length = 0
  · rw [if_pos (by omega), ← h.s, List.eq_nil_of_length_eq_zero h0]
  · rw [if_neg (by omega)]
    show (b.s.drop 0).take 3000 = _
    rw [List.drop_zero, List.take_of_length_le (by omega), h.s]

end Go.Proofs.Ytljgmlgdafijcaa
