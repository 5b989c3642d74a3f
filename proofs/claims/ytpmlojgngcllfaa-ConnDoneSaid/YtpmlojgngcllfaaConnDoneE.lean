/- ConnDone: the rest of what a segment does. No walk in sight. -/
import Derived.Test.YtpmlojgngcllfaaConnDoneD
namespace Go.Proofs.Ytpmlojgngcllfaa
open Go.RowKit Go

section
variable {iss irs : Int} {give take : List UInt8} {W U : Nat} {F : Bool} {got : List UInt8} {q : Int} {u v t : Nat} {c : CN}

/-- The first acknowledgement. -/
theorem K.begin (h : K iss irs give take W U F got q u v t c) (h1 : c.state = 1) (hf : W = take.length ∨ u + 2048 ≤ W) {X : Int} (hX : X = 2 ∨ X = 3) (a b : Int) :
    K iss irs give take W U F got q u v t (CN.covers { c with state := X, window := 1000, seq := a, ack := b } ((iss + 1 + (U + (if F then 1 else 0) : Nat)) % 4294967296)) ∧ U + (if F then 1 else 0) = u ∧
      (CN.covers { c with state := X, window := 1000, seq := a, ack := b } ((iss + 1 + (U + (if F then 1 else 0) : Nat)) % 4294967296)).state = X ∧
      (CN.covers { c with state := X, window := 1000, seq := a, ack := b } ((iss + 1 + (U + (if F then 1 else 0) : Nat)) % 4294967296)).closed = c.closed ∧
      (CN.covers { c with state := X, window := 1000, seq := a, ack := b } ((iss + 1 + (U + (if F then 1 else 0) : Nat)) % 4294967296)).eof = c.eof ∧
      (CN.covers { c with state := X, window := 1000, seq := a, ack := b } ((iss + 1 + (U + (if F then 1 else 0) : Nat)) % 4294967296)).acked = c.acked ∧
      (CN.covers { c with state := X, window := 1000, seq := a, ack := b } ((iss + 1 + (U + (if F then 1 else 0) : Nat)) % 4294967296)).rb = c.rb ∧
      (CN.covers { c with state := X, window := 1000, seq := a, ack := b } ((iss + 1 + (U + (if F then 1 else 0) : Nat)) % 4294967296)).lingers = c.lingers ∧
      (CN.covers { c with state := X, window := 1000, seq := a, ack := b } ((iss + 1 + (U + (if F then 1 else 0) : Nat)) % 4294967296)).out = c.out ∧
      (CN.covers { c with state := X, window := 1000, seq := a, ack := b } ((iss + 1 + (U + (if F then 1 else 0) : Nat)) % 4294967296)).tries = 0 := by
  obtain ⟨z1, z2, z3, z4, z5, z6, z7, z8⟩ := h.one h1
  subst z1 z2 z3 z4 z5
  have hX1 : X ≠ 1 := by omega
  have hX9 : X ≠ 9 := by omega
  have hX6 : X ≠ 6 := by omega
  have i0 := h.is0
  have hua : c.una = iss := by rw [h.una, if_pos h1]
  have hA : (iss + 1 + ((0 + (if false = true then 1 else 0) : Nat) : Int)) % 4294967296 = (iss + 1 + ((0 : Nat) : Int)) % 4294967296 := rfl
  rw [hA]
  have hl : lessB iss ((iss + 1 + ((0 : Nat) : Int)) % 4294967296) = true := by
    have := less_off iss (a := 0) (b := 1) (by omega) (by omega)
    rw [decide_eq_true (by omega)] at this
    rw [← this]
    congr 1 <;> omega
  obtain ⟨d, hd⟩ : ∃ d : CN, d = { c with state := X, window := 1000, seq := a, ack := b } := ⟨_, rfl⟩
  rw [← hd]
  have g1 : d.state = X := by rw [hd]
  have g2 : d.closed = c.closed := by rw [hd]
  have g3 : d.eof = c.eof := by rw [hd]
  have g4 : d.rb = c.rb := by rw [hd]
  have g5 : d.lingers = c.lingers := by rw [hd]
  have g6 : d.out = c.out := by rw [hd]
  have g7 : d.acked = c.acked := by rw [hd]
  have hsb : d.sb = ⟨2048, (iss + 1 + ((0 : Nat) : Int)) % 4294967296, take.take W⟩ := by rw [hd]; show c.sb = _; rw [h.sb]; simp
  have hc1 : d.cov1 ((iss + 1 + ((0 : Nat) : Int)) % 4294967296) = { d with una := (iss + 1 + ((0 : Nat) : Int)) % 4294967296 } := by
    have hwl := h.wl
    have htl := h.tl
    have hfin : (d.fin + 1) % M32 = (iss + 1 + ((W + 1 : Nat) : Int)) % 4294967296 := by
      have : d.fin = c.fin := by rw [hd]; rfl
      rw [this, h.toK0.fin]
      unfold M32
      have := step_off (iss + 1) W 1
      simpa using this
    have hack : d.sb.ack ((iss + 1 + ((0 : Nat) : Int)) % 4294967296) = d.sb := by
      have : ahd d.sb.una ((iss + 1 + ((0 : Nat) : Int)) % 4294967296) = 0 := by rw [hsb]; exact ahd_off (iss + 1) (Nat.le_refl 0) (by omega)
      unfold SB.ack
      rw [this, if_neg (by omega)]
    unfold CN.cov1
    rw [hfin, if_neg (fun hx => by have := (eq_off (iss + 1) (by omega) (by omega)).1 hx.2; omega), hack]
  have hdu : d.una = iss := by rw [hd]; exact hua
  unfold CN.covers
  rw [hdu, hl, if_pos rfl, hc1]
  have hdn : d.nxt = (iss + 1 + ((0 : Nat) : Int)) % 4294967296 := by rw [hd]; exact h.nxt
  have hdt : d.top = (iss + 1 + ((0 : Nat) : Int)) % 4294967296 := by rw [hd]; exact h.top
  have hc2 : CN.cov2 { d with una := (iss + 1 + ((0 : Nat) : Int)) % 4294967296 } = { d with una := (iss + 1 + ((0 : Nat) : Int)) % 4294967296 } := by
    have hl2 : lessB d.nxt ((iss + 1 + ((0 : Nat) : Int)) % 4294967296) = false := by rw [hdn]; have := less_off (iss + 1) (a := 0) (b := 0) (by omega) (by omega); rw [this]; rfl
    unfold CN.cov2
    rw [if_neg (by show ¬ lessB d.nxt _ = true; rw [hl2]; decide)]
  rw [hc2]
  have hwl := h.wl
  have k1 : K0 iss irs give take W 0 false got q 0 0 0 { d with una := (iss + 1 + ((0 : Nat) : Int)) % 4294967296, left := 0, tries := 0 } := by
    rw [hd]
    exact { h.toK0 with
      una := by show _ = if X = 1 then _ else _; rw [if_neg hX1]
      one := fun hx => absurd hx hX1
      win := fun _ => rfl
      fill := fun _ => by omega
      l8 := ⟨Int.le_refl 0, show (0 : Int) ≤ 8 by decide⟩
      tr := ⟨Int.le_refl 0, Int.le_trans h.tr.1 h.tr.2⟩
      lg := fun hx => absurd hx hX6 }
  have fin : ∀ k : Clk, k.Ok ∧ k.most = 8 → ∀ m : Bool, K iss irs give take W 0 false got q 0 0 0 { d with una := (iss + 1 + ((0 : Nat) : Int)) % 4294967296, left := 0, tries := 0, clk := k, measures := m } := fun k hk m =>
    ⟨{ k1 with ck := hk }, fun _ => ⟨fun hx => absurd (show (0 : Int) < 0 from hx) (by decide), fun hx => by
      rcases hx with hx | hx
      · omega
      · exact absurd (g1.symm.trans hx) hX1⟩⟩
  have hck : d.clk.Ok ∧ d.clk.most = 8 := by rw [hd]; exact h.ck
  have hc4 : ∀ e : CN, e.una = (iss + 1 + ((0 : Nat) : Int)) % 4294967296 → e.top = (iss + 1 + ((0 : Nat) : Int)) % 4294967296 → e.cov4 = { e with tries := 0, left := 0 } := fun e h2 h3 => by
    unfold CN.cov4
    rw [if_pos (by rw [h2, h3])]
  have hc3 : ∃ k : Clk, (k.Ok ∧ k.most = 8) ∧ ∃ m : Bool, CN.cov3 { d with una := (iss + 1 + ((0 : Nat) : Int)) % 4294967296 } = { d with una := (iss + 1 + ((0 : Nat) : Int)) % 4294967296, clk := k, measures := m } := by
    unfold CN.cov3
    split
    · exact ⟨_, ⟨hck.1.measure _, (Clk.measure_most _ _).trans hck.2⟩, false, rfl⟩
    · exact ⟨d.clk, hck, d.measures, rfl⟩
  obtain ⟨k, hk, m, e3⟩ := hc3
  obtain ⟨e, he⟩ : ∃ e : CN, e = { d with una := (iss + 1 + ((0 : Nat) : Int)) % 4294967296, clk := k, measures := m } := ⟨_, rfl⟩
  rw [e3, ← he, hc4 e (by rw [he]) (by rw [he]; exact hdt), he]
  exact ⟨fin k hk m, rfl, g1, g2, g3, g7, g4, g5, g6, rfl⟩

theorem K.opens (h : K iss irs give take W U F got q u v t c) (h1 : c.state ≠ 1) {s : Sg} (hs : s.window = 1000) :
    K iss irs give take W U F got q u v t (c.opens s) ∧ (c.opens s).state = c.state ∧ (c.opens s).closed = c.closed ∧ (c.opens s).eof = c.eof ∧ (c.opens s).acked = c.acked ∧ (c.opens s).rb = c.rb ∧ (c.opens s).lingers = c.lingers ∧ (c.opens s).out = c.out ∧ (c.opens s).tries = c.tries ∧ (c.opens s).left = c.left := by
  have hw := h.win h1
  unfold CN.opens
  split
  · have hl : (if c.window = 0 ∧ 0 < s.window ∧ c.nxt = c.una then 0 else c.left) = c.left := if_neg fun hx => by rw [hw] at hx; omega
    rw [hl, hs]
    exact ⟨⟨{ h.toK0 with win := fun _ => rfl }, h.tm⟩, rfl, rfl, rfl, rfl, rfl, rfl, rfl, rfl, rfl⟩
  · exact ⟨h, rfl, rfl, rfl, rfl, rfl, rfl, rfl, rfl, rfl⟩

theorem CN.acks_six {c : CN} (h : c.state = 6) : c.acks = c := by
  have e : ∀ a b : Int, a ≠ 6 → c.turn a b = c := fun a b ha => by
    unfold CN.turn
    rw [if_neg (by rw [h]; exact fun hx => ha hx.symm)]
  unfold CN.acks
  rw [e 3 4 (by decide), e 5 6 (by decide), e 8 9 (by decide)]
  split <;> rfl
/-- The state between. -/
def PT (c : CN) : Prop :=
  (c.state = 2 ∧ c.closed = false ∧ c.eof = false ∧ c.acked = false) ∨ (c.state = 3 ∧ c.closed = true ∧ c.eof = false) ∨ (c.state = 4 ∧ c.closed = true ∧ c.eof = false ∧ c.acked = true) ∨
    (c.state = 5 ∧ c.closed = true ∧ c.eof = true) ∨ (c.state = 6 ∧ c.closed = true ∧ c.eof = true ∧ c.acked = true) ∨ (c.state = 7 ∧ c.closed = false ∧ c.eof = true ∧ c.acked = false) ∨ (c.state = 8 ∧ c.closed = true ∧ c.eof = true)
theorem K.move (h : K iss irs give take W U F got q u v t c) (h1 : c.state ≠ 1) (h9 : c.state ≠ 9) {X : Int} (hX1 : X ≠ 1) {L : Int} (hL : X = 6 → 1 ≤ L ∧ L ≤ 4) : K iss irs give take W U F got q u v t { c with state := X, lingers := L } :=
  ⟨{ h.toK0 with
      una := (h.toK0.una1 h1).trans (if_neg hX1).symm
      one := fun hx => absurd hx hX1
      win := fun _ => h.win h1
      fill := fun _ => h.fill h1
      lg := hL }, fun _ => by
    have htm := h.tm h9
    exact ⟨fun hx => by
      rcases htm.1 hx with h2 | h2
      · exact .inl h2
      · exact absurd h2 h1, fun hx => by
      rcases hx with h2 | h2
      · exact htm.2 (.inl h2)
      · exact absurd h2 hX1⟩⟩
theorem K.end_ (h : K iss irs give take W U F got q u v t c) (h1 : c.state ≠ 1) : K iss irs give take W U F got q u v t (c.finish false) :=
  ⟨{ h.toK0 with
      una := (h.toK0.una1 h1).trans (if_neg (show ¬ (9 : Int) = 1 by decide)).symm
      one := fun hx => absurd (show (9 : Int) = 1 from hx) (by decide)
      win := fun _ => h.win h1
      fill := fun _ => h.fill h1
      l8 := ⟨Int.le_refl 0, show (0 : Int) ≤ 8 by decide⟩
      rs := by show (c.reset || false) = false; rw [h.rs]; rfl
      lg := fun hx => absurd (show (9 : Int) = 6 from hx) (by decide) }, fun hx => absurd rfl hx⟩
/-- What the own Fin's acknowledgement turns. -/
theorem K.acks (h : K iss irs give take W U F got q u v t c) (hp : PT c) :
    K iss irs give take W U F got q u v t c.acks ∧ ST c.acks ∧ c.acks.state ≠ 1 ∧ c.acks.closed = c.closed ∧ c.acks.eof = c.eof ∧ c.acks.acked = c.acked ∧ c.acks.rb = c.rb ∧ c.acks.out = c.out ∧ c.acks.tries = c.tries ∧ (c.acks.state ≠ 9 → c.acks.left = c.left) ∧
      (c.acks.state = 6 → c.acks.lingers = 4 ∨ (c.state = 6 ∧ c.acks.lingers = c.lingers)) := by
  have ho := h.o
  have e34 : ∀ X : Int, c.state = X → c.acked = true → X = 3 → c.acks = { c with state := 4 } := fun X hx ha h3 => by
    unfold CN.acks CN.turn
    rw [if_pos ha]
    simp [hx, h3]
  have e56 : c.state = 5 → c.acked = true → c.acks = { c with state := 6, lingers := 4 } := fun hx ha => by
    unfold CN.acks CN.turn
    rw [if_pos ha]
    simp [hx, ho]
  have e89 : c.state = 8 → c.acked = true → c.acks = c.finish false := fun hx ha => by
    unfold CN.acks CN.turn
    rw [if_pos ha]
    simp [hx]
  have e0 : c.acked = false → c.acks = c := fun ha => by unfold CN.acks; rw [if_neg (by rw [ha]; decide)]
  have e1 : c.acked = true → c.state ≠ 3 → c.state ≠ 5 → c.state ≠ 8 → c.acks = c := fun ha h3 h5 h8 => by
    unfold CN.acks CN.turn
    rw [if_pos ha]
    simp [h3, h5, h8]
  have hkeep : c.acks = c → ST c → c.state ≠ 1 → _ := fun he hs h1 => by
    exact (show K iss irs give take W U F got q u v t c.acks ∧ ST c.acks ∧ c.acks.state ≠ 1 ∧ c.acks.closed = c.closed ∧ c.acks.eof = c.eof ∧ c.acks.acked = c.acked ∧ c.acks.rb = c.rb ∧ c.acks.out = c.out ∧ c.acks.tries = c.tries ∧ (c.acks.state ≠ 9 → c.acks.left = c.left) ∧
      (c.acks.state = 6 → c.acks.lingers = 4 ∨ (c.state = 6 ∧ c.acks.lingers = c.lingers)) by
      rw [he]; exact ⟨h, hs, h1, rfl, rfl, rfl, rfl, rfl, rfl, fun _ => rfl, fun hx => .inr ⟨hx, rfl⟩⟩)
  rcases hp with ⟨h2, h3, h4, h5⟩ | ⟨h2, h3, h4⟩ | ⟨h2, h3, h4, h5⟩ | ⟨h2, h3, h4⟩ | ⟨h2, h3, h4, h5⟩ | ⟨h2, h3, h4, h5⟩ | ⟨h2, h3, h4⟩
  · exact hkeep (e0 h5) (by unfold ST; simp [h2, h3, h4, h5]) (by rw [h2]; decide)
  · cases ha : c.acked
    · rw [← ha]
      exact hkeep (e0 ha) (by unfold ST; simp [h2, h3, h4, ha]) (by rw [h2]; decide)
    · rw [e34 3 h2 ha rfl]
      have hm := h.move (X := 4) (L := c.lingers) (by rw [h2]; decide) (by rw [h2]; decide) (by decide) (fun hx => absurd hx (by decide))
      exact ⟨hm, by unfold ST; simp [h3, h4, ha], by simp, rfl, rfl, ha, rfl, rfl, rfl, fun _ => rfl, fun hx => absurd (show (4 : Int) = 6 from hx) (by decide)⟩
  · exact hkeep (e1 h5 (by rw [h2]; decide) (by rw [h2]; decide) (by rw [h2]; decide)) (by unfold ST; simp [h2, h3, h4, h5]) (by rw [h2]; decide)
  · cases ha : c.acked
    · rw [← ha]
      exact hkeep (e0 ha) (by unfold ST; simp [h2, h3, h4, ha]) (by rw [h2]; decide)
    · rw [e56 h2 ha]
      have hm := h.move (X := 6) (L := 4) (by rw [h2]; decide) (by rw [h2]; decide) (by decide) (fun _ => by decide)
      exact ⟨hm, by unfold ST; simp [h3, h4, ha], by simp, rfl, rfl, ha, rfl, rfl, rfl, fun _ => rfl, fun _ => .inl rfl⟩
  · exact hkeep (e1 h5 (by rw [h2]; decide) (by rw [h2]; decide) (by rw [h2]; decide)) (by unfold ST; simp [h2, h3, h4, h5]) (by rw [h2]; decide)
  · exact hkeep (e0 h5) (by unfold ST; simp [h2, h3, h4, h5]) (by rw [h2]; decide)
  · cases ha : c.acked
    · rw [← ha]
      exact hkeep (e0 ha) (by unfold ST; simp [h2, h3, h4, ha]) (by rw [h2]; decide)
    · rw [e89 h2 ha]
      have hm := h.end_ (by rw [h2]; decide)
      exact ⟨hm, by unfold ST CN.finish; simp [h3, h4, ha], by unfold CN.finish; simp, rfl, rfl, ha, rfl, rfl, rfl, fun hx => absurd rfl hx, fun hx => absurd (show (9 : Int) = 6 from hx) (by decide)⟩
end
end Go.Proofs.Ytpmlojgngcllfaa
