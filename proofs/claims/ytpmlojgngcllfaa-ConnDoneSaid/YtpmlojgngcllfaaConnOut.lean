/- How many segments are out, in plain words. No walk in sight. -/
import Derived.Test.YtpmlojgngcllfaaConnFlush
import Derived.Test.YtpmlojgngcllfaaConnCounts
import Derived.Test.YtpmlojgngcllfaaConnOpens
import Derived.Test.YtpmlojgngcllfaaConnTakes
namespace Go.Proofs.Ytpmlojgngcllfaa
open Go.RowKit Go

theorem CN.say_out (c : CN) (a b d : Int) (l : List UInt8) : (c.say a b d l).out.length = c.out.length + 1 := by simp [CN.say]
theorem CN.tell_out (c : CN) : c.tell.out.length = c.out.length + 1 := c.say_out _ _ _ _
theorem CN.answers_out (c : CN) (s : Sg) : (c.answers s).2.out.length ≤ c.out.length + 1 := by
  unfold CN.answers
  split
  · split
    · exact Nat.le_succ _
    · simp
  · split
    · exact Nat.le_succ _
    · split
      · exact Nat.le_of_eq c.tell_out
      · exact Nat.le_succ _
theorem CN.counts_out (c : CN) (s : Sg) : (c.counts s).2.out.length ≤ c.out.length + 1 := by
  unfold CN.counts
  split
  · split
    · exact Nat.le_succ _
    · split
      · exact Nat.le_of_eq c.tell_out
      · split
        · exact c.answers_out s
        · exact Nat.le_succ _
  · split
    · exact Nat.le_succ _
    · exact Nat.le_of_eq c.tell_out
theorem CN.covers_out (c : CN) (a : Int) : (c.covers a).out = c.out := by
  have h1 : (c.cov1 a).out = c.out := by unfold CN.cov1; split <;> rfl
  have h2 : ∀ d : CN, d.cov2.out = d.out := fun d => by unfold CN.cov2; split <;> rfl
  have h3 : ∀ d : CN, d.cov3.out = d.out := fun d => by unfold CN.cov3; split <;> rfl
  have h4 : ∀ d : CN, d.cov4.out = d.out := fun d => by unfold CN.cov4; split <;> rfl
  unfold CN.covers
  split
  · rw [h4, h3, h2, h1]
  · rfl
theorem CN.opens_out (c : CN) (s : Sg) : (c.opens s).out = c.out := by unfold CN.opens; split <;> rfl
theorem CN.turn_out (c : CN) (a b : Int) : (c.turn a b).out = c.out := by
  unfold CN.turn
  split
  · split
    · rfl
    · split <;> rfl
  · rfl
theorem CN.acks_out (c : CN) : c.acks.out = c.out := by
  unfold CN.acks
  split
  · rw [CN.turn_out, CN.turn_out, CN.turn_out]
  · rfl
theorem CN.takes1_out (c : CN) (s : Sg) : (c.takes1 s).out = c.out := by unfold CN.takes1; split <;> rfl
theorem CN.takes2_out (c : CN) (s : Sg) : (c.takes2 s).out = c.out := by
  unfold CN.takes2
  split
  · rw [CN.turn_out, CN.turn_out, CN.turn_out]
  · rfl
theorem CN.takes3_out (c : CN) : c.takes3.out = c.out := by unfold CN.takes3; split <;> rfl
theorem CN.takes_out (c : CN) (s : Sg) : (c.takes s).out = c.out := by
  unfold CN.takes
  split
  · rw [CN.takes3_out, CN.takes2_out, CN.takes1_out]
  · rw [CN.takes1_out]
theorem CN.pour_out : ∀ (k : Nat) (c : CN), (CN.pour k c).out.length ≤ c.out.length + k
  | 0, _ => Nat.le_refl _
  | k + 1, c => by
    unfold CN.pour
    split
    · rename_i hc
      have h1 := CN.pour_out k (c.piece c.rest).runs
      rw [(CN.runs_same _).2.2, CN.piece_out hc] at h1
      omega
    · omega
theorem CN.idles_out (c : CN) : c.idles.out = c.out := by unfold CN.idles; split <;> rfl
theorem CN.flush_out {c : CN} (h : c.Ok) : c.flush.out.length ≤ c.out.length + 2049 := by
  have h1 := CN.fuel_le h
  have h2 := CN.pour_out c.fuel c
  unfold CN.flush
  split
  · rw [CN.idles_out]
    omega
  · omega

theorem CnIn.c30 {w : World} {B g : Nat} {fp : List Nat} {c : CN} (h : CnIn w B fp g c) : ∃ A k, w.cell? ⟨g, 30, none⟩ = some (.slice A c.out.length k) ∧ c.out.length ≤ k := by
  obtain ⟨gs, gi, gd, gh, gc, rv, ov, hin, _⟩ := h
  rcases hin.own.2 with ⟨rfl, h0⟩ | ⟨k, cap, cur, rfl, _, _, h1, _⟩
  · exact ⟨none, 0, (hin.blk.cell 30).trans (by rw [h0]; rfl), Nat.le_of_eq h0⟩
  · exact ⟨_, cap, hin.blk.cell 30, h1⟩
theorem CnIn.c16 {w : World} {B g : Nat} {fp : List Nat} {c : CN} (h : CnIn w B fp g c) : ∃ gi, w.cell? ⟨g, 16, none⟩ = some (.pointer (some ⟨gi, 0, none⟩)) := by
  obtain ⟨gs, gi, gd, gh, gc, rv, ov, hin, _⟩ := h
  exact ⟨gi, hin.blk.cell 16⟩
theorem cnone_in {B g : Nat} {fp : List Nat} {c : CN} (w : World) (h : CnIn w B fp g c) : Calls Try.prog 31 #[.pointer (some ⟨g, 0, none⟩)] w fun e w' => e = .returned (.bool false) ∧ w = w' := by
  obtain ⟨gi, d16⟩ := h.c16
  clear h
  go_enter Try.func31, Try.ntmps31
  go_wp2
  go_ret
  exact ⟨rfl, rfl⟩

end Go.Proofs.Ytpmlojgngcllfaa
