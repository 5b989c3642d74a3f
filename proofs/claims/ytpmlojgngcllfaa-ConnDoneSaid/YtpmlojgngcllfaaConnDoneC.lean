/- ConnDone: what is written, read, closed, and how time goes. No walk in sight. -/
import Derived.Test.YtpmlojgngcllfaaConnDoneB
namespace Go.Proofs.Ytpmlojgngcllfaa
open Go.RowKit Go

section
variable {iss irs : Int} {give take : List UInt8} {W U : Nat} {F : Bool} {got : List UInt8} {q : Int} {u v t : Nat} {c : CN}

theorem K0.later (h : K0 iss irs give take W U F got q u v t c) {q' : Int} (hq : q ≤ q') : K0 iss irs give take W U F got q' u v t c := { h with tr := ⟨h.tr.1, Int.le_trans h.tr.2 hq⟩ }
theorem K.later (h : K iss irs give take W U F got q u v t c) {q' : Int} (hq : q ≤ q') : K iss irs give take W U F got q' u v t c := ⟨h.toK0.later hq, h.tm⟩
theorem K.drain (h : K iss irs give take W U F got q u v t c) : K iss irs give take W U F got q u v t c.drain := ⟨{ h.toK0 with out := fun _ hs => by cases hs }, h.tm⟩
theorem K0.read1 (h : K0 iss irs give take W U F got q u v t c) : K0 iss irs give take W U F (got ++ c.got 3000) q u v t (c.read1 3000) ∧ (c.read1 3000).rb.ready = [] ∧ rcv (got ++ c.got 3000) (c.read1 3000) = rcv got c ∧ c.got 3000 = c.rb.ready := by
  have hl := h.fl.lies.ok.rl
  have hrm := h.rm
  have htk : c.rb.take 3000 = c.rb.ready.length := by unfold RB.take; omega
  have hg : c.got 3000 = c.rb.ready := by unfold CN.got; rw [htk, List.take_length]
  have hr : (c.rb.read 3000).ready = [] := by unfold RB.read; rw [htk]; show c.rb.ready.drop _ = []; rw [List.drop_length]
  have hfl := h.fl.read 3000
  have hg2 : c.rb.ready.take (c.rb.take 3000) = c.rb.ready := hg
  rw [hg2] at hfl
  have hrc : rcv (got ++ c.rb.ready) (c.read1 3000) = rcv got c := by
    unfold rcv
    show (got ++ c.rb.ready).length + (c.rb.read 3000).ready.length + _ = _
    rw [hr, List.length_append]
    rfl
  rw [hg]
  have hone : c.state = 1 → u = 0 ∧ v = 0 ∧ t = 0 ∧ U = 0 ∧ F = false ∧ c.eof = false ∧ got ++ c.rb.ready = [] ∧ (c.rb.read 3000).ready = [] := fun h1 => by
    obtain ⟨a1, a2, a3, a4, a5, a6, a7, a8⟩ := h.one h1
    exact ⟨a1, a2, a3, a4, a5, a6, by rw [a7, a8]; rfl, hr⟩
  have hef : c.eof = true → (got ++ c.rb.ready).length + (c.rb.read 3000).ready.length = give.length := fun h1 => by
    rw [hr, List.length_append]
    exact h.ef h1
  have hout : ∀ s ∈ c.out, Hon iss irs take c.closed W U t (rcv (got ++ c.rb.ready) (c.read1 3000)) s := by rw [hrc]; exact h.out
  exact ⟨{ h with one := hone, fl := hfl, rm := h.rm, ef := hef, out := hout }, hr, hrc, rfl⟩
theorem K.read (h : K iss irs give take W U F got q u v t c) : K iss irs give take W U F (got ++ c.got 3000) q u v t (c.read 3000) ∧ (c.read 3000).rb.ready = [] ∧ rcv (got ++ c.got 3000) (c.read 3000) = rcv got c ∧
    (c.read 3000).state = c.state ∧ (c.read 3000).closed = c.closed ∧ (c.read 3000).eof = c.eof ∧ (c.read 3000).acked = c.acked ∧ (c.read 3000).left = c.left ∧ (c.read 3000).tries = c.tries ∧ (c.read 3000).lingers = c.lingers ∧ ∀ s ∈ c.out, s ∈ (c.read 3000).out := by
  obtain ⟨h1, h2, h3, h4⟩ := h.toK0.read1
  have hk : K iss irs give take W U F (got ++ c.got 3000) q u v t (c.read1 3000) := ⟨h1, h.tm⟩
  unfold CN.read
  split
  · exact ⟨hk.tell, h2, h3, rfl, rfl, rfl, rfl, rfl, rfl, rfl, fun s hs => List.mem_append.2 (.inl hs)⟩
  · exact ⟨hk, h2, h3, rfl, rfl, rfl, rfl, rfl, rfl, rfl, fun s hs => hs⟩
/-- What is written. -/
theorem K.write (h : K iss irs give take W U F got q u v t c) (hst : ST c) : ∃ v' t', K iss irs give take (W + c.wrote (take.drop W)) U F got q u v' t' (c.write (take.drop W)) ∧ Kp c (c.write (take.drop W)) ∧ (v ≤ v' ∧ t ≤ t') ∧
    (W + c.wrote (take.drop W) = take.length ∨ u + 2048 ≤ W + c.wrote (take.drop W)) ∧ (0 < c.left → (c.write (take.drop W)).left = c.left) ∧ (c.flows = true → c.writes = true → eE (W + c.wrote (take.drop W)) c.closed ≤ v' ∨ u + 1000 ≤ v') := by
  unfold CN.wrote CN.write
  by_cases hw : c.writes = true
  · rw [if_pos hw, if_pos hw]
    have hcl : c.closed = false := by unfold CN.writes at hw; cases hc : c.closed <;> simp_all
    have hwl := h.wl
    have huv := h.uv
    have hvt := h.vt
    have htw := h.tw
    have hsl := h.sl
    have hu : u ≤ W := by unfold eE at htw; rw [hcl] at htw; simp at htw; omega
    have hp : min u W = u := by omega
    have hsb := h.sb
    rw [hp] at hsb hsl
    have hsn : c.sb.s.length = W - u := by rw [hsb]; show ((take.drop u).take (W - u)).length = _; rw [List.length_take, List.length_drop]; omega
    obtain ⟨f, hf⟩ : ∃ f, f = c.sb.fits (take.drop W) := ⟨_, rfl⟩
    have hf2 : f = min (take.length - W) (2048 - (W - u)) := by
      rw [hf]
      unfold SB.fits
      rw [hsn, List.length_drop, hsb]
      show min (take.length - W) ((2048 : Int) - ((W - u : Nat) : Int)).toNat = _
      omega
    rw [← hf]
    have hsb' : c.sb.write (take.drop W) = ⟨2048, (iss + 1 + ((min u (W + f) : Nat) : Int)) % 4294967296, (take.drop (min u (W + f))).take (W + f - min u (W + f))⟩ := by
      have hp' : min u (W + f) = u := by omega
      unfold SB.write
      rw [← hf, hp']
      have e1 : (take.drop u).take (W - u) ++ (take.drop W).take f = (take.drop u).take (W + f - u) := by
        have e2 : take.drop W = (take.drop u).drop (W - u) := by rw [List.drop_drop]; congr 1; omega
        rw [e2, ← List.take_add]
        congr 1
        omega
      rw [hsb, ← e1]
    have hna : c.acked = true ↔ u = W + f + 1 := by
      constructor
      · intro ha
        have := h.ak.1 ha
        omega
      · intro ha
        omega
    have htw' : t ≤ eE (W + f) c.closed := by unfold eE at htw ⊢; rw [hcl] at htw ⊢; simp at htw ⊢; omega
    have hk : K iss irs give take (W + f) U F got q u v t { c with sb := c.sb.write (take.drop W) } :=
      ⟨{ h.toK0 with
          wl := by omega
          sb := hsb'
          sl := by omega
          tw := htw'
          cl := fun hc => by have hc' : c.closed = true := hc; rw [hcl] at hc'; cases hc'
          ak := hna
          fill := fun h1 => by rcases h.fill h1 with h2 | h2 <;> omega
          fx := fun hF => by have := h.fx hF; omega
          uw := by have := h.uw; omega
          out := fun s hs => (h.out s hs).more (fun hc => hc) (Nat.le_add_right _ _) (Nat.le_refl _) (Nat.le_refl _) (Nat.le_refl _) }, h.tm⟩
    obtain ⟨v', t', k1, k2, k3, k4, k5, -⟩ := hk.flush
    exact ⟨v', t', k1, ⟨k2.st, k2.cl, k2.ef, k2.rb, k2.tr, k2.ck, k2.lg, k2.ua, k2.ak, k2.out⟩, k3, by omega, k5, fun hfl _ => k4 hfl⟩
  · rw [if_neg hw, if_neg hw]
    have hW : W = take.length := by
      cases hc : c.closed
      · unfold CN.writes at hw
        unfold ST at hst
        rw [hc] at hw hst
        simp at hw hst
        omega
      · exact h.cl hc
    exact ⟨v, t, h, Kp.refl c, ⟨Nat.le_refl _, Nat.le_refl _⟩, .inl hW, fun _ => rfl, fun _ hx => absurd hx hw⟩
/-- What closing leaves alone. -/
structure Kc (c d : CN) : Prop where
  ef : d.eof = c.eof
  rb : d.rb = c.rb
  tr : d.tries = c.tries
  lg : d.lingers = c.lingers
  ak : d.acked = c.acked
  cl : d.closed = true
  s1 : d.state = 1 ↔ c.state = 1
  s6 : d.state = 6 ↔ c.state = 6
  s9 : d.state = 9 ↔ c.state = 9
  out : ∀ s ∈ c.out, s ∈ d.out
theorem K.shut (h : K iss irs give take W U F got q u v t c) (hcl : c.closed = false) (hW : W = take.length) {X : Int} (h1 : X = 1 ↔ c.state = 1) (h6 : X ≠ 6) (h9' : c.state ≠ 9) : K iss irs give take W U F got q u v t { c with closed := true, state := X } := by
  have htw := h.tw
  have huv := h.uv
  have hvt := h.vt
  have hu : t ≤ W := by unfold eE at htw; rw [hcl] at htw; simpa using htw
  have hak : c.acked = true ↔ u = W + 1 := h.ak
  have hun : c.una = if X = 1 then iss else (iss + 1 + (u : Int)) % 4294967296 := by
    rw [h.una]
    by_cases hx : X = 1
    · rw [if_pos hx, if_pos (h1.1 hx)]
    · rw [if_neg hx, if_neg fun hy => hx (h1.2 hy)]
  have htm := h.tm h9'
  refine ⟨{ h.toK0 with
    una := hun
    tw := by unfold eE; simp; omega
    cl := fun _ => hW
    one := fun hx => h.one (h1.1 hx)
    win := fun hx => h.win fun hy => hx (h1.2 hy)
    fill := fun hx => h.fill fun hy => hx (h1.2 hy)
    out := fun s hs => (h.out s hs).more (fun _ => rfl) (Nat.le_refl _) (Nat.le_refl _) (Nat.le_refl _) (Nat.le_refl _)
    lg := fun hx => absurd hx h6 }, fun _ => ?_⟩
  rw [show (0 < c.left ↔ (u < t ∨ X = 1)) ↔ (0 < c.left ↔ (u < t ∨ c.state = 1)) from by rw [h1]]
  exact htm
theorem K.close (h : K iss irs give take W U F got q u v t c) (hst : ST c) (hW : W = take.length) : ∃ v' t', K iss irs give take W U F got q u v' t' c.close ∧ ST c.close ∧ Kc c c.close ∧ (v ≤ v' ∧ t ≤ t') ∧ (0 < c.left → c.close.left = c.left) := by
  unfold CN.close
  by_cases hw : c.writes = true
  · rw [if_pos hw]
    have hcl : c.closed = false := by unfold CN.writes at hw; cases hc : c.closed <;> simp_all
    have key : ∃ X : Int, (CN.turn (CN.turn { c with closed := true } 2 3) 7 8) = { c with closed := true, state := X } ∧ (X = 1 ↔ c.state = 1) ∧ X ≠ 6 ∧ X ≠ 9 ∧ c.state ≠ 9 ∧ c.state ≠ 6 ∧ ST { c with closed := true, state := X } := by
      unfold ST at hst ⊢
      unfold CN.writes at hw
      rw [hcl] at hw hst
      simp only [Bool.not_false, Bool.true_and, Bool.or_eq_true, beq_iff_eq] at hw
      rcases hw with (hs | hs) | hs
      · refine ⟨1, ?_, by simp [hs], by decide, by decide, by rw [hs]; decide, by rw [hs]; decide, ?_⟩
        · unfold CN.turn
          simp [hs]
        · rw [hs] at hst; simp at hst; simp [hst]
      · refine ⟨3, ?_, by simp [hs], by decide, by decide, by rw [hs]; decide, by rw [hs]; decide, ?_⟩
        · unfold CN.turn
          simp [hs]
        · rw [hs] at hst; simp at hst; simp [hst]
      · refine ⟨8, ?_, by simp [hs], by decide, by decide, by rw [hs]; decide, by rw [hs]; decide, ?_⟩
        · unfold CN.turn
          simp [hs]
        · rw [hs] at hst; simp at hst; simp [hst]
    obtain ⟨X, e, x1, x6, x9, c9, c6, hst'⟩ := key
    rw [e]
    obtain ⟨v', t', k1, k2, k3, -, k5, -⟩ := (h.shut hcl hW x1 x6 c9).flush
    refine ⟨v', t', k1, hst'.kp k2, ⟨k2.ef, k2.rb, k2.tr, k2.lg, k2.ak, k2.cl, ?_, ?_, ?_, k2.out⟩, k3, k5⟩
    · rw [k2.st]; exact x1
    · rw [k2.st]; exact ⟨fun hx => absurd hx x6, fun hx => absurd hx c6⟩
    · rw [k2.st]; exact ⟨fun hx => absurd hx x9, fun hx => absurd hx c9⟩
  · rw [if_neg hw]
    have hcl : c.closed = true := by
      cases hc : c.closed
      · exfalso
        unfold CN.writes at hw
        unfold ST at hst
        rw [hc] at hw hst
        simp at hw hst
        omega
      · rfl
    exact ⟨v, t, h, hst, ⟨rfl, rfl, rfl, rfl, rfl, hcl, Iff.rfl, Iff.rfl, Iff.rfl, fun _ hs => hs⟩, ⟨Nat.le_refl _, Nat.le_refl _⟩, fun _ => rfl⟩

/-- The timer ran out. -/
theorem K0.longer (h : K0 iss irs give take W U F got q u v t c) (hu : u < t ∨ c.state = 1) : K iss irs give take W U F got q u v t c.longer := by
  have hb : K0 iss irs give take W U F got q u v t { c with clk := c.clk.back } := { h with ck := ⟨h.ck.1.back, h.ck.2⟩ }
  exact hb.run hu
theorem K0.again1 (h : K0 iss irs give take W U F got q u v t c) (hq : q + 1 ≤ 100) (h1 : c.state = 1) : K iss irs give take W U F got (q + 1) u v t c.again ∧ c.again.state = 1 ∧ c.again.closed = c.closed ∧ c.again.eof = c.eof ∧ c.again.acked = c.acked ∧ c.again.rb = c.rb ∧ ∀ s ∈ c.out, s ∈ c.again.out := by
  have ht := h.tr
  unfold CN.again
  rw [if_pos h1, if_neg (by rw [h.o]; show ¬ (100 : Int) < c.tries + 1; omega)]
  have h2 : K0 iss irs give take W U F got (q + 1) u v t { c with tries := c.tries + 1, measures := false } := { h with tr := ⟨by show 0 ≤ c.tries + 1; omega, by show c.tries + 1 ≤ q + 1; omega⟩ }
  have h3 := h2.longer (.inr h1)
  refine ⟨⟨h3.toK0.say (.inr (.inl ⟨rfl, h.isq, rfl⟩)), h3.tm⟩, h1, rfl, rfl, rfl, rfl, fun s hs => List.mem_append.2 (.inl hs)⟩
theorem K0.again2 (h : K0 iss irs give take W U F got q u v t c) (hq : q + 1 ≤ 100) (h1 : c.state ≠ 1) (hu : u < t) :
    ∃ v' t', K iss irs give take W U F got (q + 1) u v' t' c.again ∧ c.again.state = c.state ∧ c.again.closed = c.closed ∧ c.again.eof = c.eof ∧ c.again.acked = c.acked ∧ c.again.rb = c.rb ∧ c.again.lingers = c.lingers ∧ (∀ s ∈ c.out, s ∈ c.again.out) ∧ Cov iss take u c.again.out ∧ t ≤ t' := by
  obtain ⟨b1, b2, b3, b4⟩ := h.bd
  have ht := h.tr
  have huv := h.uv
  have hvt := h.vt
  have hnt : ¬ c.una = c.top := by rw [h.una1 h1, h.top, eq_off _ (by omega) (by omega)]; omega
  unfold CN.again
  rw [if_neg h1, if_neg hnt]
  have hw : 0 < c.window := by rw [h.win h1]; decide
  rw [if_pos hw]
  show ∃ v' t', K iss irs give take W U F got (q + 1) u v' t' (if c.o.tries < c.tries + 1 then _ else _) ∧ (if c.o.tries < c.tries + 1 then _ else _ : CN).state = c.state ∧ (if c.o.tries < c.tries + 1 then _ else _ : CN).closed = c.closed ∧ (if c.o.tries < c.tries + 1 then _ else _ : CN).eof = c.eof ∧
    (if c.o.tries < c.tries + 1 then _ else _ : CN).acked = c.acked ∧ (if c.o.tries < c.tries + 1 then _ else _ : CN).rb = c.rb ∧ (if c.o.tries < c.tries + 1 then _ else _ : CN).lingers = c.lingers ∧ (∀ s ∈ c.out, s ∈ (if c.o.tries < c.tries + 1 then _ else _ : CN).out) ∧ Cov iss take u (if c.o.tries < c.tries + 1 then _ else _ : CN).out ∧ t ≤ t'
  rw [if_neg (by rw [h.o]; show ¬ (100 : Int) < c.tries + 1; omega)]
  have h2 : K0 iss irs give take W U F got (q + 1) u u t { c with tries := c.tries + 1, nxt := c.una, measures := false } :=
    { h with
      nxt := h.una1 h1
      uv := Nat.le_refl _
      vt := by omega
      al := ⟨h.al.1, h.al.1⟩
      one := fun hx => absurd hx h1
      tr := ⟨by show 0 ≤ c.tries + 1; omega, by show c.tries + 1 ≤ q + 1; omega⟩ }
  have hmx : max c.window 1 = 1000 := by rw [h.win h1]; decide
  have htw := h.tw
  obtain ⟨p1, p2, p3, -⟩ := h2.piece (n := max c.window 1) h1 (by show u < eE W c.closed; omega) (by rw [hmx]; decide) (fun _ => by rw [hmx]; decide) (by have := nextv_le take.length u; omega)
  have hlt := nextv_lt take.length u
  have p5 := p1.longer (.inl (by omega))
  exact ⟨_, _, p5, p2.st, p2.cl, p2.ef, p2.ak, p2.rb, p2.lg, p2.out, p3, Nat.le_max_left _ _⟩
/-- What a tick leaves alone. -/
structure Kt (c d : CN) : Prop where
  cl : d.closed = c.closed
  ef : d.eof = c.eof
  ak : d.acked = c.acked
  rb : d.rb = c.rb
  s1 : d.state = 1 ↔ c.state = 1
  out : ∀ s ∈ c.out, s ∈ d.out
theorem K.tick2 (h : K iss irs give take W U F got q u v t c) (hq : q + 1 ≤ 100) (h9 : c.state ≠ 9) : ∃ v' t', K iss irs give take W U F got (q + 1) u v' t' c.tick2 ∧ c.tick2.state = c.state ∧ c.tick2.lingers = c.lingers ∧ (Kt c c.tick2 ∧ t ≤ t') ∧
    ((c.tick2.left = c.left - 1 ∧ 0 < c.tick2.left ∧ c.tick2.tries = c.tries ∧ v' = v ∧ t' = t) ∨ (c.left = 0 ∧ c.tick2 = c) ∨ c.state = 1 ∨ Cov iss take u c.tick2.out) := by
  have hl := h.l8
  have htm := h.tm h9
  unfold CN.tick2
  by_cases h0 : 0 < c.left
  · rw [if_pos h0]
    by_cases h1 : c.left = 1
    · rw [if_pos h1]
      have hk : K0 iss irs give take W U F got q u v t { c with left := 0 } := { h.toK0 with l8 := ⟨Int.le_refl 0, show (0 : Int) ≤ 8 by decide⟩ }
      by_cases hs : c.state = 1
      · obtain ⟨a1, a2, a3, a4, a5, a6, a7⟩ := hk.again1 hq hs
        refine ⟨v, t, a1, by rw [a2, hs], ?_, ⟨⟨a3, a4, a5, a6, by rw [a2]; simp [hs], a7⟩, Nat.le_refl _⟩, .inr (.inr (.inl hs))⟩
        unfold CN.again
        rw [if_pos (show ({ c with left := 0 } : CN).state = 1 from hs)]
        split <;> rfl
      · have hu : u < t := by
          rcases htm.1 h0 with h2 | h2
          · exact h2
          · exact absurd h2 hs
        obtain ⟨v', t', a1, a2, a3, a4, a5, a6, a7, a8, a9, a10⟩ := hk.again2 hq hs hu
        exact ⟨v', t', a1, a2, a7, ⟨⟨a3, a4, a5, a6, by rw [a2], a8⟩, a10⟩, .inr (.inr (.inr a9))⟩
    · rw [if_neg h1]
      refine ⟨v, t, ⟨{ h.toK0.later (show q ≤ q + 1 by omega) with l8 := ⟨by show 0 ≤ c.left - 1; omega, by show c.left - 1 ≤ 8; omega⟩ }, fun _ => ⟨fun _ => htm.1 h0, fun _ => by show 0 < c.left - 1; omega⟩⟩, rfl, rfl, ⟨⟨rfl, rfl, rfl, rfl, Iff.rfl, fun _ hs => hs⟩, Nat.le_refl _⟩, .inl ⟨rfl, by show 0 < c.left - 1; omega, rfl, rfl, rfl⟩⟩
  · rw [if_neg h0]
    exact ⟨v, t, h.later (by omega), rfl, rfl, ⟨⟨rfl, rfl, rfl, rfl, Iff.rfl, fun _ hs => hs⟩, Nat.le_refl _⟩, .inr (.inl ⟨by omega, rfl⟩)⟩
theorem K.tick (h : K iss irs give take W U F got q u v t c) (hst : ST c) (hq : q + 1 ≤ 100) (h9 : c.state ≠ 9) : ∃ v' t', K iss irs give take W U F got (q + 1) u v' t' c.tick ∧ ST c.tick ∧ (Kt c c.tick ∧ t ≤ t') ∧
    ((c.tick.state = 9 ∧ c.state = 6 ∧ c.lingers = 1) ∨ (c.tick.state = c.state ∧ (c.state = 6 → c.tick.lingers = c.lingers - 1))) ∧
    (c.tick.state = 9 ∨ (c.tick.left = c.left - 1 ∧ 0 < c.tick.left ∧ c.tick.tries = c.tries ∧ t' = t) ∨ (c.left = 0 ∧ c.tick.tries = c.tries ∧ t' = t) ∨ c.state = 1 ∨ Cov iss take u c.tick.out) := by
  have hlg := h.lg
  have e1 : ∃ d : CN, c.tick1 = d ∧ K iss irs give take W U F got q u v t d ∧ d.state = c.state ∧ d.lingers = c.lingers ∧ d.left = c.left ∧ d.tries = c.tries ∧ Kt c d := by
    unfold CN.tick1
    split
    · exact ⟨_, rfl, ⟨{ h.toK0 with ag := by have := h.ag; show 0 ≤ c.age + 1; omega }, h.tm⟩, rfl, rfl, rfl, rfl, ⟨rfl, rfl, rfl, rfl, Iff.rfl, fun _ hs => hs⟩⟩
    · exact ⟨c, rfl, h, rfl, rfl, rfl, rfl, ⟨rfl, rfl, rfl, rfl, Iff.rfl, fun _ hs => hs⟩⟩
  obtain ⟨d, he, hd, d1, d2, d3, d4, d5⟩ := e1
  have e2 : c.tick = d.tick3 := by unfold CN.tick; rw [if_neg h9, he]
  rw [e2]
  have hsd : ST d := by unfold ST at hst ⊢; rw [d1, d5.cl, d5.ef, d5.ak]; exact hst
  unfold CN.tick3
  by_cases h6 : c.state = 6
  · rw [if_pos (by rw [d1]; exact h6)]
    have hst6 : c.closed = true ∧ c.eof = true ∧ c.acked = true := by unfold ST at hst; rw [h6] at hst; simpa using hst
    by_cases hl : d.lingers = 1
    · rw [if_pos hl]
      have hx : ST (CN.finish { d with lingers := 0 } false) := by
        unfold ST
        right; right; right; right; right; right; right; right
        exact ⟨rfl, by show d.closed = true; rw [d5.cl]; exact hst6.1, by show d.eof = true; rw [d5.ef]; exact hst6.2.1, by show d.acked = true; rw [d5.ak]; exact hst6.2.2⟩
      have hs6 : d.state ≠ 1 := by rw [d1, h6]; decide
      refine ⟨v, t, ⟨{ hd.toK0.later (show q ≤ q + 1 by omega) with
          una := (hd.toK0.una1 hs6).trans (if_neg (show ¬ (9 : Int) = 1 by decide)).symm
          one := fun hx => absurd (show (9 : Int) = 1 from hx) (by decide)
          win := fun _ => hd.win hs6
          fill := fun _ => hd.fill hs6
          l8 := ⟨Int.le_refl 0, show (0 : Int) ≤ 8 by decide⟩
          rs := by show (d.reset || false) = false; rw [hd.rs]; rfl
          lg := fun hx => absurd (show (9 : Int) = 6 from hx) (by decide) }, fun hx => absurd rfl hx⟩, hx, ⟨⟨d5.cl, d5.ef, d5.ak, d5.rb, ?_, d5.out⟩, Nat.le_refl _⟩, .inl ⟨rfl, h6, by rw [← d2]; exact hl⟩, .inl rfl⟩
      show (9 : Int) = 1 ↔ c.state = 1
      rw [h6]
      decide
    · rw [if_neg hl]
      have h6d : d.state = 6 := by rw [d1]; exact h6
      have hdl := hd.lg h6d
      have hk : K iss irs give take W U F got q u v t { d with lingers := d.lingers - 1 } := ⟨{ hd.toK0 with lg := fun _ => ⟨by show 1 ≤ d.lingers - 1; omega, by show d.lingers - 1 ≤ 4; omega⟩ }, hd.tm⟩
      obtain ⟨v', t', a1, a2, a3, ⟨a4, a6⟩, a5⟩ := hk.tick2 hq (by show d.state ≠ 9; rw [d1]; exact h9)
      have hkt : Kt c (CN.tick2 { d with lingers := d.lingers - 1 }) := ⟨a4.cl.trans d5.cl, a4.ef.trans d5.ef, a4.ak.trans d5.ak, a4.rb.trans d5.rb, a4.s1.trans d5.s1, fun s hs => a4.out s (d5.out s hs)⟩
      have hss : (CN.tick2 { d with lingers := d.lingers - 1 }).state = c.state := a2.trans d1
      refine ⟨v', t', a1, ?_, ⟨hkt, a6⟩, .inr ⟨hss, fun _ => by rw [a3]; show d.lingers - 1 = _; rw [d2]⟩, ?_⟩
      · unfold ST at hst ⊢; rw [hss, hkt.cl, hkt.ef, hkt.ak]; exact hst
      · rcases a5 with ⟨b1, b2, b3, b4, b5⟩ | ⟨b1, b2⟩ | b1 | b1
        · exact .inr (.inl ⟨b1.trans (by show d.left - 1 = _; rw [d3]), b2, b3.trans d4, b5⟩)
        · right; right; left
          exact ⟨d3 ▸ b1, by rw [b2]; exact d4, by
            have h1 := a1.top
            rw [b2] at h1
            have h2 := hd.top
            have h3 : d.top = (iss + 1 + (t' : Int)) % 4294967296 := h1
            rw [h2] at h3
            obtain ⟨-, -, x1, -⟩ := a1.toK0.bd
            obtain ⟨-, -, x2, -⟩ := hd.toK0.bd
            exact ((eq_off _ (by omega) (by omega)).1 h3).symm⟩
        · exact .inr (.inr (.inr (.inl (d1 ▸ b1))))
        · exact .inr (.inr (.inr (.inr b1)))
  · rw [if_neg (by rw [d1]; exact h6)]
    obtain ⟨v', t', a1, a2, a3, ⟨a4, a6⟩, a5⟩ := hd.tick2 hq (by rw [d1]; exact h9)
    have hkt : Kt c d.tick2 := ⟨a4.cl.trans d5.cl, a4.ef.trans d5.ef, a4.ak.trans d5.ak, a4.rb.trans d5.rb, a4.s1.trans d5.s1, fun s hs => a4.out s (d5.out s hs)⟩
    have hss : d.tick2.state = c.state := a2.trans d1
    refine ⟨v', t', a1, ?_, ⟨hkt, a6⟩, .inr ⟨hss, fun hx => absurd hx h6⟩, ?_⟩
    · unfold ST at hst ⊢; rw [hss, hkt.cl, hkt.ef, hkt.ak]; exact hst
    · rcases a5 with ⟨b1, b2, b3, b4, b5⟩ | ⟨b1, b2⟩ | b1 | b1
      · exact .inr (.inl ⟨b1.trans (by rw [d3]), b2, b3.trans d4, b5⟩)
      · right; right; left
        exact ⟨d3 ▸ b1, by rw [b2]; exact d4, by
          have h1 := a1.top
          rw [b2] at h1
          have h2 := hd.top
          rw [h2] at h1
          obtain ⟨-, -, x1, -⟩ := a1.toK0.bd
          obtain ⟨-, -, x2, -⟩ := hd.toK0.bd
          exact ((eq_off _ (by omega) (by omega)).1 h1).symm⟩
      · exact .inr (.inr (.inr (.inl (d1 ▸ b1))))
      · exact .inr (.inr (.inr (.inr b1)))
end
end Go.Proofs.Ytpmlojgngcllfaa
