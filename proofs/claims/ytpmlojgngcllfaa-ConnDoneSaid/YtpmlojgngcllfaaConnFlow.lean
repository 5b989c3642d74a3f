/- How a connection's flush goes, in plain words. No walk in sight. -/
import Derived.Test.YtpmlojgngcllfaaConnPiece
namespace Go.Proofs.Ytpmlojgngcllfaa
open Go.RowKit Go

theorem SB.get_nil {b : SB} {seq n : Int} (hn : 1 ≤ n) (h : b.get seq n = []) : (b.s.length : Int) ≤ ahd b.una seq := by
  have h0 := (ahd_bd b.una seq).1
  unfold SB.get at h
  split at h
  · omega
  · rename_i hc
    have h1 := congrArg List.length h
    rw [List.length_take, List.length_drop] at h1
    simp at h1
    omega
theorem SB.get_len {b : SB} {seq n : Int} (hn : 1 ≤ n) (h : ahd b.una seq < b.s.length) : ((b.get seq n).length : Int) = min n (b.s.length - ahd b.una seq) := by
  have h0 := (ahd_bd b.una seq).1
  unfold SB.get
  rw [if_neg (by omega), List.length_take, List.length_drop]
  omega

theorem CN.waits_le {c : CN} (h : c.Ok) (hw : c.waits = true) : ahd c.sb.una c.nxt ≤ c.sb.s.length := by
  unfold CN.waits at hw
  rw [Bool.or_eq_true] at hw
  rcases hw with hw | hw
  · rcases Int.lt_or_le (ahd c.sb.una c.nxt) c.sb.s.length with h1 | h1
    · omega
    · have : c.sb.get c.nxt 1 = [] := by unfold SB.get; rw [if_pos (.inr h1)]
      rw [this] at hw
      simp at hw
  · simp only [Bool.and_eq_true, decide_eq_true_eq] at hw
    have h1 := h.sb.l1
    have h2 := h.sb.r2
    have h3 := h.sb.u1
    have h4 := h.sb.u2
    rw [hw.2]
    unfold CN.fin ahd M32
    omega

theorem CN.can_spec {c : CN} {n : Int} (h : c.can n = true) : 1 ≤ n ∧ c.waits = true := by
  unfold CN.can at h
  simpa using h

theorem CN.sent_fuel {c : CN} (h : c.Ok) {n : Int} (hc : c.can n = true) : (c.sent n).fuel < c.fuel := by
  obtain ⟨hn, hw⟩ := CN.can_spec hc
  have hle := CN.waits_le h hw
  have h1 := h.sb.l1
  have h2 := h.sb.r2
  have h0 := ahd_bd c.sb.una c.nxt
  have hm := h.mss
  have hf : c.fuel = c.sb.s.length - (ahd c.sb.una c.nxt).toNat + 1 := by unfold CN.fuel; rw [if_pos hle]
  rw [hf]
  unfold CN.sent
  split
  · rename_i hb
    have h5 := SB.get_nil (b := c.sb) (seq := c.nxt) (n := min n c.mss) (by omega) hb
    have h6 : ahd c.sb.una c.nxt = c.sb.s.length := by omega
    have h7 : ahd c.sb.una ((c.nxt + 1) % M32) = c.sb.s.length + 1 := by
      unfold ahd M32 at *
      omega
    show (if ahd c.sb.una ((c.nxt + 1) % M32) ≤ c.sb.s.length then _ else 0) < _
    rw [if_neg (by omega)]
    omega
  · rename_i hb
    have h5 : ahd c.sb.una c.nxt < c.sb.s.length := by
      rcases Int.lt_or_le (ahd c.sb.una c.nxt) c.sb.s.length with h1 | h1
      · exact h1
      · exact absurd (show c.bit n = [] by unfold CN.bit SB.get; rw [if_pos (.inr h1)]) hb
    have h6 := SB.get_len (b := c.sb) (seq := c.nxt) (n := min n c.mss) (by omega) h5
    have h7 : (c.bit n).length = min (min n c.mss) (c.sb.s.length - ahd c.sb.una c.nxt) := h6
    generalize (c.bit n).length = L at *
    have h8 : ahd c.sb.una ((c.nxt + L) % M32) = ahd c.sb.una c.nxt + L := by
      unfold ahd M32 at *
      omega
    show (if ahd c.sb.una ((c.nxt + L) % M32) ≤ c.sb.s.length then c.sb.s.length - (ahd c.sb.una ((c.nxt + L) % M32)).toNat + 1 else 0) < _
    rw [h8]
    split <;> omega

theorem CN.went_same (c : CN) : c.went.sb = c.sb ∧ c.went.nxt = c.nxt ∧ c.went.out = c.out ∧ c.went.left = c.left ∧ c.went.clk = c.clk ∧ c.went.una = c.una ∧ c.went.window = c.window ∧ c.went.state = c.state := by
  unfold CN.went CN.measure
  split
  · split <;> exact ⟨rfl, rfl, rfl, rfl, rfl, rfl, rfl, rfl⟩
  · exact ⟨rfl, rfl, rfl, rfl, rfl, rfl, rfl, rfl⟩
theorem CN.runs_same (c : CN) : c.runs.sb = c.sb ∧ c.runs.nxt = c.nxt ∧ c.runs.out = c.out := by
  unfold CN.runs CN.run
  split <;> exact ⟨rfl, rfl, rfl⟩
theorem CN.fuel_eq {c d : CN} (h1 : d.sb = c.sb) (h2 : d.nxt = c.nxt) : d.fuel = c.fuel := by unfold CN.fuel; rw [h1, h2]
theorem CN.sent_out (c : CN) (n : Int) : (c.sent n).out.length = c.out.length + 1 := by
  unfold CN.sent CN.say
  split <;> simp
theorem CN.step_fuel {c : CN} (h : c.Ok) {n : Int} (hc : c.can n = true) : (c.piece n).runs.fuel < c.fuel := by
  have h1 := CN.runs_same (c.piece n)
  rw [CN.fuel_eq h1.1 h1.2.1]
  unfold CN.piece
  rw [if_pos hc]
  have h2 := CN.went_same (c.sent n)
  rw [CN.fuel_eq h2.1 h2.2.1]
  exact CN.sent_fuel h hc
theorem CN.piece_out {c : CN} {n : Int} (hc : c.can n = true) : (c.piece n).out.length = c.out.length + 1 := by
  unfold CN.piece
  rw [if_pos hc, (CN.went_same _).2.2.1, CN.sent_out]

theorem CN.Ok.went {c : CN} (h : c.Ok) : c.went.Ok := by
  unfold CN.went
  split
  · split
    · exact ⟨h.sb, h.rb, h.clk, h.opt, h.win, h.mss, h.tr, h.left, h.lin⟩
    · exact ⟨h.sb, h.rb, h.clk, h.opt, h.win, h.mss, h.tr, h.left, h.lin⟩
  · exact h
theorem CN.Ok.sent {c : CN} (h : c.Ok) (n : Int) : (c.sent n).Ok := by
  unfold CN.sent
  split <;> exact ⟨h.sb, h.rb, h.clk, h.opt, h.win, h.mss, h.tr, h.left, h.lin⟩
theorem CN.Ok.piece {c : CN} (h : c.Ok) (n : Int) : (c.piece n).Ok := by
  unfold CN.piece
  split
  · exact (h.sent n).went
  · exact h
theorem CN.Ok.runs {c : CN} (h : c.Ok) : c.runs.Ok := by
  unfold CN.runs
  split
  · exact h.run
  · exact h

theorem CN.fuel_pos {c : CN} (h : c.Ok) {n : Int} (hc : c.can n = true) : 0 < c.fuel := Nat.lt_of_le_of_lt (Nat.zero_le _) (CN.sent_fuel h hc)
theorem CN.pour_stop {c : CN} (hc : c.can c.rest = false) : ∀ k, CN.pour k c = c
  | 0 => rfl
  | k + 1 => by unfold CN.pour; rw [hc]; rfl
/-- More fuel does not matter. -/
theorem CN.pour_more : ∀ (k : Nat) {c : CN}, c.Ok → c.fuel ≤ k → CN.pour k c = CN.pour c.fuel c
  | 0, c, _, hk => by rw [Nat.le_zero.1 hk]
  | k + 1, c, h, hk => by
    rcases hc : c.can c.rest with _ | _
    · rw [CN.pour_stop hc, CN.pour_stop hc]
    · obtain ⟨f, hf⟩ : ∃ f, c.fuel = f + 1 := ⟨c.fuel - 1, by have := CN.fuel_pos h hc; omega⟩
      have hlt := CN.step_fuel h hc
      rw [hf]
      show (if c.can c.rest = true then CN.pour k _ else c) = (if c.can c.rest = true then CN.pour f _ else c)
      rw [if_pos hc, if_pos hc, CN.pour_more k (h.piece _).runs (by omega)]
      rw [CN.pour_more f (h.piece _).runs (by omega)]
theorem CN.pour_step {c : CN} (h : c.Ok) (hc : c.can c.rest = true) : CN.pour c.fuel c = CN.pour (c.piece c.rest).runs.fuel (c.piece c.rest).runs := by
  obtain ⟨f, hf⟩ : ∃ f, c.fuel = f + 1 := ⟨c.fuel - 1, by have := CN.fuel_pos h hc; omega⟩
  have hlt := CN.step_fuel h hc
  rw [hf]
  show (if c.can c.rest = true then CN.pour f _ else c) = _
  rw [if_pos hc, CN.pour_more f (h.piece _).runs (by omega)]
theorem CN.fuel_le {c : CN} (h : c.Ok) : c.fuel ≤ 2049 := by
  have h1 := h.sb.l1
  have h2 := h.sb.r2
  unfold CN.fuel
  split <;> omega

end Go.Proofs.Ytpmlojgngcllfaa
