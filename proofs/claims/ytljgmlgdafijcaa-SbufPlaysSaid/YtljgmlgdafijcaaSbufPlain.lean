/- Plain laws of the sending buffer. No walk in sight. -/
import Derived.Test.YtljgmlgdafijcaaSbuf
namespace Go.Proofs.Ytljgmlgdafijcaa

theorem ahd_self (a : Int) : ahd a a = 0 := by unfold ahd; omega
theorem ahd_add {a p : Int} (h0 : 0 ≤ p) (h1 : p < 4294967296) : ahd a ((a + p) % 4294967296) = p := by unfold ahd; omega

theorem take_add_drop {α : Type} (S : List α) (a b : Nat) : S.take a ++ (S.drop a).take b = S.take (a + b) := by
  rw [List.take_add]

/-- What a write, a get from the first byte on, and its acknowledgement do. -/
theorem pieces_step {S : List UInt8} {b : SB} {gl wr n : Nat} (hok : b.Ok) (h1 : gl ≤ wr) (h2 : wr ≤ S.length) (hb : b.s = (S.take wr).drop gl) (hn : 1 ≤ n) (hlt : gl < S.length)
    {L : List UInt8} (hL : L = (S.drop wr).take (min S.length (wr + n) - wr)) {F : Nat} (hF : F = b.fits L) {b1 : SB} (hb1 : b1 = b.write L) {pc : List UInt8} (hpc : pc = b1.get b1.una n)
    {b2 : SB} (hb2 : b2 = b1.ack ((b1.una + (pc.length : Int)) % 4294967296)) :
    F ≤ L.length ∧ b1.gone ((b1.una + (pc.length : Int)) % 4294967296) = pc.length ∧ b2.s = (S.take (wr + F)).drop (gl + pc.length) ∧ S.take gl ++ pc = S.take (gl + pc.length) ∧
      1 ≤ pc.length ∧ gl + pc.length ≤ wr + F ∧ wr + F ≤ S.length ∧ pc.length ≤ 2048 := by
  have hok1 := hok.write L
  obtain ⟨r1, r2, u1, u2, l1⟩ := hok
  have hLl : L.length = min S.length (wr + n) - wr := by rw [hL, List.length_take, List.length_drop]; omega
  have hbl : b.s.length = wr - gl := by rw [hb, List.length_drop, List.length_take]; omega
  have hFl : F ≤ L.length := by rw [hF]; unfold SB.fits; omega
  have hF2 : F = min L.length (b.room - b.s.length).toNat := hF
  have hs1 : b1.s = (S.take (wr + F)).drop gl := by
    rw [hb1]
    show b.s ++ L.take (b.fits L) = _
    rw [← hF, hb, hL, List.take_take, show min F (min S.length (wr + n) - wr) = F from by omega, ← take_add_drop S wr F, List.drop_append_of_le_length (by rw [List.length_take]; omega)]
  have hl1 : b1.s.length = wr + F - gl := by rw [hs1, List.length_drop, List.length_take]; omega
  have hr1 : (b1.s.length : Int) ≤ 2048 := by
    have := hok1.l1
    have := hok1.r2
    rw [hb1]
    omega
  have hpos : 1 ≤ b1.s.length := by omega
  have hget : pc = b1.s.take n := by
    rw [hpc]
    unfold SB.get
    rw [ahd_self, if_neg (by omega)]
    simp
  have hpl : pc.length = min n b1.s.length := by rw [hget, List.length_take]
  have ha : ahd b1.una ((b1.una + (pc.length : Int)) % 4294967296) = pc.length := ahd_add (by omega) (by omega)
  refine ⟨hFl, ?_, ?_, ?_, by omega, by omega, by omega, by omega⟩
  · unfold SB.gone
    rw [ha, if_pos (by omega)]
    simp
  · rw [hb2]
    unfold SB.ack
    rw [ha, if_pos (by omega)]
    show b1.s.drop (Int.toNat _) = _
    rw [Int.toNat_natCast, hs1, List.drop_drop]
  · have e : pc = (S.drop gl).take (min n (wr + F - gl)) := by rw [hget, hs1, List.drop_take, List.take_take]
    rw [← take_add_drop S gl, show pc.length = min n (wr + F - gl) from by omega, ← e]

end Go.Proofs.Ytljgmlgdafijcaa
