/- ConnDone: what a segment of the other end does. No walk in sight. -/
import Derived.Test.YtpmlojgngcllfaaConnDoneC
namespace Go.Proofs.Ytpmlojgngcllfaa
open Go.RowKit Go

/-- What the other end says. -/
def sayS (iss irs : Int) (give : List UInt8) (U : Nat) (F : Bool) (H : Nat) : Sg :=
  ⟨9, 10, (irs + 1 + (H : Int)) % 4294967296, (iss + 1 + ((U + (if F then 1 else 0) : Nat) : Int)) % 4294967296, if H = give.length then 17 else 16, 1000, 0, (give.drop H).take 100⟩

theorem Clk.measure_most (k : Clk) (r : Int) : (k.measure r).most = k.most := by
  unfold Clk.measure Clk.set Clk.meet
  split <;> rfl

section
variable {iss irs : Int} {give take : List UInt8} {W U : Nat} {F : Bool} {got : List UInt8} {q : Int} {u v t : Nat} {c : CN}

theorem K.covers (h : K iss irs give take W U F got q u v t c) (h1 : c.state ≠ 1) {a : Nat} (ha : a = U + (if F then 1 else 0)) (hal : alg take.length a) (hf : W = take.length ∨ u + 2048 ≤ W) :
    ∃ v', K iss irs give take W U F got q a v' t (c.covers ((iss + 1 + (a : Int)) % 4294967296)) ∧
      (c.covers ((iss + 1 + (a : Int)) % 4294967296)).state = c.state ∧ (c.covers ((iss + 1 + (a : Int)) % 4294967296)).closed = c.closed ∧ (c.covers ((iss + 1 + (a : Int)) % 4294967296)).eof = c.eof ∧ (c.covers ((iss + 1 + (a : Int)) % 4294967296)).rb = c.rb ∧
      (c.covers ((iss + 1 + (a : Int)) % 4294967296)).lingers = c.lingers ∧ (c.covers ((iss + 1 + (a : Int)) % 4294967296)).out = c.out ∧
      (u = a → c.covers ((iss + 1 + (a : Int)) % 4294967296) = c) ∧ (u < a → (c.covers ((iss + 1 + (a : Int)) % 4294967296)).tries = 0) := by
  obtain ⟨b1, b2, b3, b4⟩ := h.toK0.bd
  have hux := h.ux
  have hxt := h.xt
  have huv := h.uv
  have hvt := h.vt
  have htw := h.tw
  have hwl := h.wl
  have hsl := h.sl
  have hnr := h.near
  rw [← ha] at hux hxt
  unfold CN.covers
  rw [h.toK0.una1 h1, less_off _ (by omega) (by omega)]
  by_cases hlt : u < a
  · rw [decide_eq_true hlt, if_pos rfl]
    have hfx := h.fx
    have huw := h.uw
    have hna : c.acked = false := by
      cases hx : c.acked
      · rfl
      · have := h.ak.1 hx
        unfold eE at htw
        split at htw <;> omega
    have haw : a ≤ W + 1 := by unfold eE at htw; split at htw <;> omega
    have hcl1 : a = W + 1 → c.closed = true := fun hx => by
      cases hc : c.closed
      · unfold eE at htw; rw [hc] at htw; simp at htw; omega
      · rfl
    obtain ⟨X, hX, e1⟩ : ∃ X : Bool, (X = true ↔ a = W + 1) ∧ c.cov1 ((iss + 1 + (a : Int)) % 4294967296) =
        { c with una := (iss + 1 + (a : Int)) % 4294967296, acked := X, sb := ⟨2048, (iss + 1 + ((min a W : Nat) : Int)) % 4294967296, (take.drop (min a W)).take (W - min a W)⟩ } := by
      have hp : min u W = u := by omega
      have hsb := h.sb
      rw [hp] at hsb
      have hsn : c.sb.s.length = W - u := by rw [hsb]; show ((take.drop u).take (W - u)).length = _; rw [List.length_take, List.length_drop]; omega
      have hack : ∀ b : Nat, u ≤ b → b ≤ W → c.sb.ack ((iss + 1 + (b : Int)) % 4294967296) = ⟨2048, (iss + 1 + (b : Int)) % 4294967296, (take.drop b).take (W - b)⟩ := fun b hb1 hb2 => by
        have hah : ahd c.sb.una ((iss + 1 + (b : Int)) % 4294967296) = ((b - u : Nat) : Int) := by rw [hsb]; exact ahd_off _ hb1 (by omega)
        unfold SB.ack
        rw [hah, hsn]
        by_cases hbu : u = b
        · subst hbu
          rw [if_neg (by omega), hsb]
        · rw [if_pos (by omega), Int.toNat_natCast, hsb]
          show SB.mk 2048 _ (((take.drop u).take (W - u)).drop (b - u)) = _
          rw [List.drop_take, List.drop_drop, show u + (b - u) = b from by omega, show W - u - (b - u) = W - b from by omega]
      have hfin : (c.fin + 1) % M32 = (iss + 1 + ((W + 1 : Nat) : Int)) % 4294967296 := by
        rw [h.toK0.fin]
        unfold M32
        have := step_off (iss + 1) W 1
        simpa using this
      unfold CN.cov1
      rw [hfin]
      by_cases hw1 : a = W + 1
      · rw [if_pos ⟨hcl1 hw1, (eq_off (iss + 1) (by omega) (by omega)).2 hw1⟩]
        refine ⟨true, by simp [hw1], ?_⟩
        have e2 : ((iss + 1 + (a : Int)) % 4294967296 - 1) % M32 = (iss + 1 + (W : Int)) % 4294967296 := by
          unfold M32
          rw [hw1]
          omega
        rw [e2, hack W (by omega) (Nat.le_refl _), show min a W = W from by omega]
      · rw [if_neg fun hx => hw1 ((eq_off (iss + 1) (by omega) (by omega)).1 hx.2), hack a (by omega) (by omega), show min a W = a from by omega]
        exact ⟨c.acked, ⟨fun hx => (by rw [hna] at hx; cases hx), fun hx => absurd hx hw1⟩, rfl⟩
    have e2 : ∀ d : CN, d.nxt = c.nxt → d.una = (iss + 1 + (a : Int)) % 4294967296 → d.cov2 = { d with nxt := (iss + 1 + ((max v a : Nat) : Int)) % 4294967296 } := fun d hn hu => by
      have hl : lessB d.nxt d.una = decide (v < a) := by rw [hn, hu, h.nxt]; exact less_off _ (by omega) (by omega)
      unfold CN.cov2
      rw [hl]
      by_cases hva : v < a
      · rw [decide_eq_true hva, if_pos rfl, show max v a = a from by omega, ← hu]
      · rw [decide_eq_false hva, if_neg (by decide), show max v a = v from by omega, ← h.nxt, ← hn]
    have hal2 : alg take.length (max v a) := by
      rcases Nat.le_total v a with h2 | h2
      · rw [Nat.max_eq_right h2]; exact hal
      · rw [Nat.max_eq_left h2]; exact h.al.2
    have k1 : K0 iss irs give take W U F got q a (max v a) t { c with una := (iss + 1 + (a : Int)) % 4294967296, acked := X, sb := ⟨2048, (iss + 1 + ((min a W : Nat) : Int)) % 4294967296, (take.drop (min a W)).take (W - min a W)⟩, nxt := (iss + 1 + ((max v a : Nat) : Int)) % 4294967296 } :=
      { h.toK0 with
        sb := rfl
        sl := by omega
        una := by show _ = if c.state = 1 then _ else _; rw [if_neg h1]
        nxt := rfl
        uv := by omega
        vt := by omega
        ak := hX
        al := ⟨hal, hal2⟩
        one := fun hx => absurd hx h1
        fill := fun _ => by rcases hf with h2 | h2 <;> omega
        near := by omega
        ux := by rw [← ha]; exact Nat.le_refl _ }
    have e3 : (c.cov1 ((iss + 1 + (a : Int)) % 4294967296)).cov2 = { c with una := (iss + 1 + (a : Int)) % 4294967296, acked := X, sb := ⟨2048, (iss + 1 + ((min a W : Nat) : Int)) % 4294967296, (take.drop (min a W)).take (W - min a W)⟩, nxt := (iss + 1 + ((max v a : Nat) : Int)) % 4294967296 } := by
      rw [e2 (c.cov1 ((iss + 1 + (a : Int)) % 4294967296)) (by rw [e1]) (by rw [e1]), e1]
    rw [e3]
    obtain ⟨d, hd⟩ : ∃ d : CN, d = { c with una := (iss + 1 + (a : Int)) % 4294967296, acked := X, sb := ⟨2048, (iss + 1 + ((min a W : Nat) : Int)) % 4294967296, (take.drop (min a W)).take (W - min a W)⟩, nxt := (iss + 1 + ((max v a : Nat) : Int)) % 4294967296 } := ⟨_, rfl⟩
    rw [← hd]
    rw [← hd] at k1
    have g1 : d.state = c.state := by rw [hd]
    have g2 : d.closed = c.closed := by rw [hd]
    have g3 : d.eof = c.eof := by rw [hd]
    have g4 : d.rb = c.rb := by rw [hd]
    have g5 : d.lingers = c.lingers := by rw [hd]
    have g6 : d.out = c.out := by rw [hd]
    obtain ⟨f, hf3, k2, f1, f2, f3, f4, f5, f6⟩ : ∃ f : CN, d.cov3 = f ∧ K0 iss irs give take W U F got q a (max v a) t f ∧ f.state = c.state ∧ f.closed = c.closed ∧ f.eof = c.eof ∧ f.rb = c.rb ∧ f.lingers = c.lingers ∧ f.out = c.out := by
      unfold CN.cov3
      split
      · exact ⟨_, rfl, { k1 with ck := ⟨k1.ck.1.measure _, (Clk.measure_most _ _).trans k1.ck.2⟩ }, g1, g2, g3, g4, g5, g6⟩
      · exact ⟨d, rfl, k1, g1, g2, g3, g4, g5, g6⟩
    rw [hf3]
    have hq0 : 0 ≤ q := Int.le_trans h.tr.1 h.tr.2
    have f1' : f.state ≠ 1 := by rw [f1]; exact h1
    have k3 : K0 iss irs give take W U F got q a (max v a) t { f with tries := 0 } := { k2 with tr := ⟨Int.le_refl 0, hq0⟩ }
    have hfe : f.una = f.top ↔ a = t := by rw [k2.una1 f1', k2.top]; exact eq_off (iss + 1) (by omega) (by omega)
    unfold CN.cov4
    by_cases hat : a = t
    · rw [if_pos (hfe.2 hat)]
      exact ⟨max v a, ⟨{ k3 with l8 := ⟨Int.le_refl 0, show (0 : Int) ≤ 8 by decide⟩ }, fun _ => ⟨fun hx => absurd hx (by show ¬ (0 : Int) < 0; decide), fun hx => by
          rcases hx with hx | hx
          · omega
          · exact absurd hx f1'⟩⟩, f1, f2, f3, f4, f5, f6, fun hx => by omega, fun _ => rfl⟩
    · rw [if_neg fun hx => hat (hfe.1 hx)]
      have := K0.run (c := { f with tries := 0 }) k3 (.inl (by omega))
      exact ⟨max v a, this, f1, f2, f3, f4, f5, f6, fun hx => by omega, fun _ => rfl⟩
  · rw [decide_eq_false hlt, if_neg (by decide)]
    have hua : u = a := by omega
    subst hua
    exact ⟨v, h, rfl, rfl, rfl, rfl, rfl, rfl, fun _ => rfl, fun hx => absurd hx (Nat.lt_irrefl _)⟩
end
end Go.Proofs.Ytpmlojgngcllfaa
