/- ConnDone: what a flush does. No walk in sight. -/
import Derived.Test.YtpmlojgngcllfaaConnDoneA
namespace Go.Proofs.Ytpmlojgngcllfaa
open Go.RowKit Go

section
variable {iss irs : Int} {give take : List UInt8} {W U : Nat} {F : Bool} {got : List UInt8} {q : Int} {u v t : Nat} {c : CN}

theorem K0.wait (h : K0 iss irs give take W U F got q u v t c) : 1 ≤ c.clk.wait ∧ c.clk.wait ≤ 8 := by
  obtain ⟨k, h8⟩ := h.ck
  have := k.l1
  have := k.l2
  have := k.l3
  omega
theorem K0.run (h : K0 iss irs give take W U F got q u v t c) (hu : u < t ∨ c.state = 1) : K iss irs give take W U F got q u v t c.run := by
  have hw := h.wait
  have h0 : K0 iss irs give take W U F got q u v t c.run := { h with l8 := ⟨by show 0 ≤ c.clk.wait; omega, hw.2⟩ }
  exact ⟨h0, fun _ => ⟨fun _ => hu, fun _ => by show 0 < c.clk.wait; omega⟩⟩
theorem K0.runs (h : K0 iss irs give take W U F got q u v t c) (hu : u < t) : K iss irs give take W U F got q u v t c.runs ∧ Kp c c.runs ∧ (0 < c.left → c.runs.left = c.left) := by
  unfold CN.runs
  by_cases h0 : c.left = 0
  · rw [if_pos h0]
    exact ⟨h.run (.inl hu), ⟨rfl, rfl, rfl, rfl, rfl, rfl, rfl, rfl, rfl, fun _ hs => hs⟩, fun hl => by omega⟩
  · rw [if_neg h0]
    have h8 := h.l8
    exact ⟨⟨h, fun _ => ⟨fun _ => .inl hu, fun _ => by omega⟩⟩, Kp.refl c, fun _ => rfl⟩
theorem K0.rest (h : K0 iss irs give take W U F got q u v t c) (h1 : c.state ≠ 1) : c.rest = 1000 - ((v - u : Nat) : Int) := by
  obtain ⟨b1, b2, b3, b4⟩ := h.bd
  unfold CN.rest
  rw [h.win h1, h.una1 h1, h.nxt, ahd_off _ h.uv (by omega)]
theorem K0.can (h : K0 iss irs give take W U F got q u v t c) (h1 : c.state ≠ 1) : c.can c.rest = decide (v < u + 1000 ∧ v < eE W c.closed) := by
  have huv := h.uv
  unfold CN.can
  rw [h.waits, h.rest h1]
  by_cases hb : v < u + 1000
  · rw [decide_eq_true (by omega : 1 ≤ 1000 - ((v - u : Nat) : Int))]
    simp [hb]
  · rw [decide_eq_false (by omega : ¬ 1 ≤ 1000 - ((v - u : Nat) : Int))]
    simp [hb]
theorem K.pour : ∀ (k : Nat) {v t : Nat} {c : CN}, K iss irs give take W U F got q u v t c → c.state ≠ 1 → eE W c.closed - v ≤ k →
    ∃ v' t', K iss irs give take W U F got q u v' t' (CN.pour k c) ∧ Kp c (CN.pour k c) ∧ (v ≤ v' ∧ t ≤ t') ∧ (eE W c.closed ≤ v' ∨ u + 1000 ≤ v') ∧ (0 < c.left → (CN.pour k c).left = c.left) ∧ ((CN.pour k c).out = c.out ∨ ∃ s ∈ (CN.pour k c).out, s.ack = c.want)
  | 0, v, t, c, h, _, hk => ⟨v, t, h, Kp.refl c, ⟨Nat.le_refl _, Nat.le_refl _⟩, .inl (by omega), fun _ => rfl, .inl rfl⟩
  | k + 1, v, t, c, h, h1, hk => by
    unfold CN.pour
    rw [h.toK0.can h1]
    by_cases hc : v < u + 1000 ∧ v < eE W c.closed
    · rw [decide_eq_true hc, if_pos rfl]
      have huv := h.uv
      have hal := h.al
      have hr := h.toK0.rest h1
      have hmod : v < take.length → v + 100 ≤ u + 1000 := fun hv => by
        rcases hal.1 with h2 | h2
        · rcases hal.2 with h3 | h3 <;> omega
        · omega
      have hnear : nextv take.length v ≤ u + 1000 := by
        unfold nextv
        split
        · rename_i hv
          have := hmod hv
          omega
        · omega
      obtain ⟨p1, p2, p3, p4, p5⟩ := h.toK0.piece (n := c.rest) h1 hc.2 (by rw [hr]; omega) (fun hv => by have := hmod hv; rw [hr]; omega) hnear
      have hlt := nextv_lt take.length v
      obtain ⟨r1, r2, r3⟩ := p1.runs (by omega)
      have hkp := p2.trans r2
      obtain ⟨v', t', s1, s2, s3, s4, s5, -⟩ := K.pour k r1 (by rw [hkp.st]; exact h1) (by rw [hkp.cl]; omega)
      refine ⟨v', t', s1, hkp.trans s2, by omega, by rw [hkp.cl] at s4; exact s4, fun hl => ?_, .inr ?_⟩
      · have e1 : (c.piece c.rest).runs.left = c.left := by rw [r3 (by rw [p4]; exact hl), p4]
        rw [s5 (by rw [e1]; exact hl), e1]
      · obtain ⟨s, hs, ha⟩ := p5
        exact ⟨s, s2.out s (r2.out s hs), ha⟩
    · rw [decide_eq_false hc, if_neg (by decide)]
      exact ⟨v, t, h, Kp.refl c, ⟨Nat.le_refl _, Nat.le_refl _⟩, by omega, fun _ => rfl, .inl rfl⟩
theorem K0.fuel (h : K0 iss irs give take W U F got q u v t c) : eE W c.closed - v ≤ c.fuel := by
  obtain ⟨b1, b2, b3, b4⟩ := h.bd
  have huv := h.uv
  have hwl := h.wl
  have hvt := h.vt
  have htw := h.tw
  have hah : ahd c.sb.una c.nxt = ((v - min u W : Nat) : Int) := by rw [h.sb, h.nxt]; exact ahd_off _ (by omega) (by omega)
  have hsl : c.sb.s.length = W - min u W := by rw [h.sb]; show ((take.drop (min u W)).take (W - min u W)).length = _; rw [List.length_take, List.length_drop]; omega
  unfold CN.fuel
  rw [hah, hsl]
  unfold eE at *
  split <;> split <;> first | omega | (rename_i h1 h2; rw [h1] at htw; simp at htw; omega) | (simp_all; omega)
theorem K.flush (h : K iss irs give take W U F got q u v t c) :
    ∃ v' t', K iss irs give take W U F got q u v' t' c.flush ∧ Kp c c.flush ∧ (v ≤ v' ∧ t ≤ t') ∧ (c.flows = true → eE W c.closed ≤ v' ∨ u + 1000 ≤ v') ∧ (0 < c.left → c.flush.left = c.left) ∧ (c.flush.out = c.out ∨ ∃ s ∈ c.flush.out, s.ack = c.want) := by
  unfold CN.flush
  by_cases hf : c.flows = true
  · rw [if_pos hf]
    have h1 : c.state ≠ 1 := fun h0 => by unfold CN.flows at hf; rw [h0] at hf; simp at hf
    obtain ⟨v', t', s1, s2, s3, s4, s5, s6⟩ := h.pour c.fuel h1 h.toK0.fuel
    have h1' : (CN.pour c.fuel c).state ≠ 1 := by rw [s2.st]; exact h1
    have hid : (CN.pour c.fuel c).idles = CN.pour c.fuel c := by
      unfold CN.idles
      rw [if_neg]
      rintro ⟨hx, hy, -⟩
      obtain ⟨b1, b2, b3, b4⟩ := s1.toK0.bd
      rw [s1.nxt, s1.toK0.una1 h1', eq_off _ (by omega) (by omega)] at hx
      rw [s1.toK0.waits, s2.cl] at hy
      have := of_decide_eq_true hy
      omega
    rw [hid]
    exact ⟨v', t', s1, s2, s3, fun _ => s4, s5, s6⟩
  · rw [if_neg hf]
    exact ⟨v, t, h, Kp.refl c, ⟨Nat.le_refl _, Nat.le_refl _⟩, fun hx => absurd hx hf, fun _ => rfl, .inl rfl⟩
end
end Go.Proofs.Ytpmlojgngcllfaa
