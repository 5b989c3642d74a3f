/- ConnDone: all that is heard; one round. No walk in sight. -/
import Derived.Test.YtpmlojgngcllfaaConnDoneH
namespace Go.Proofs.Ytpmlojgngcllfaa
open Go.RowKit Go

section
variable {iss irs : Int} {give take : List UInt8} {W U : Nat} {F : Bool} {got : List UInt8} {q : Int} {u v t : Nat} {c : CN} {x y : EX}

theorem XG.uf (h : XG x y) : x.U + (if x.F then 1 else 0) ≤ y.U + (if y.F then 1 else 0) := by
  have h1 := h.U
  have h2 := h.F
  cases hx : x.F
  · simp; omega
  · rw [h2 hx]; simp; omega
theorem XI.hears {cl : Bool} {n : Nat} (hc : ∀ x : EX, cl = true → x.W = W → x.W = take.length) (htl : take.length ≤ 3000) (hk : n ≤ 3001) : ∀ (l : List Sg) (x : EX), x.W = W → XI take t x → (∀ s ∈ l, Hon iss irs take cl x.W x.U t n s) → x.H ≤ n →
    XI take t (x.hears iss irs l) ∧ XG x (x.hears iss irs l) ∧ (x.hears iss irs l).H ≤ n ∧ (∀ s ∈ l, ∀ k : Nat, k ≤ 3001 → s.ack = (irs + 1 + (k : Int)) % 4294967296 → k ≤ (x.hears iss irs l).H) ∧
      (∀ v : Nat, v ≤ x.U → v ≤ take.length → Cov iss take v l → nextv take.length v ≤ (x.hears iss irs l).U + (if (x.hears iss irs l).F then 1 else 0))
  | [], x, hW, h, hs, hH => ⟨h, XG.refl x, hH, fun s hs => (by cases hs), fun v _ _ hv => (by obtain ⟨s, hs, -⟩ := hv; cases hs)⟩
  | s :: l, x, hW, h, hs, hH => by
    obtain ⟨a1, a2, a3, a4, a5⟩ := h.hear (hs s (List.mem_cons_self ..)) (fun hx => hc x hx hW) htl hk hH
    have hW2 : (x.hear iss irs s).W = W := a2.W.trans hW
    obtain ⟨b1, b2, b3, b4, b5⟩ := XI.hears hc htl hk l (x.hear iss irs s) hW2 a1 (fun s' hs' => (hs s' (List.mem_cons_of_mem _ hs')).more (fun hx => hx) (by rw [a2.W]; exact Nat.le_refl _) a2.U (Nat.le_refl _) (Nat.le_refl _)) a3
    refine ⟨b1, a2.trans b2, b3, fun s' hs' k hk' hka => ?_, fun v hv hvt hcv => ?_⟩
    · rcases List.mem_cons.1 hs' with rfl | hs'
      · exact Nat.le_trans (a4 k hk' hka) b2.H
      · exact b4 s' hs' k hk' hka
    · obtain ⟨s', hs', hq, hv2⟩ := hcv
      rcases List.mem_cons.1 hs' with rfl | hs'
      · exact Nat.le_trans (a5 v hv hvt hq hv2) b2.uf
      · exact b5 v (Nat.le_trans hv a2.U) hvt ⟨s', hs', hq, hv2⟩
/-- The other end has more. -/
theorem K.more (h : K iss irs give take W U F got q u v t c) {U' : Nat} {F' : Bool} (hU : U ≤ U') (hF : F = true → F' = true) (hW : U' ≤ W) (hut : U' + (if F' then 1 else 0) ≤ t) (hfx : F' = true → U' = take.length ∧ W = take.length) : K iss irs give take W U' F' got q u v t c := by
  have hux := h.ux
  refine ⟨{ h.toK0 with
    one := fun hx => ?_
    ux := ?_
    xt := hut
    fx := hfx
    uw := hW
    out := fun s hs => (h.out s hs).more (fun hc => hc) (Nat.le_refl _) hU (Nat.le_refl _) (Nat.le_refl _) }, h.tm⟩
  · obtain ⟨z1, z2, z3, z4, z5, z6, z7, z8⟩ := h.one hx
    have hF' : F' = false := by
      cases hy : F'
      · rfl
      · rw [hy] at hut; simp at hut; omega
    rw [hF'] at hut
    simp at hut
    exact ⟨z1, z2, z3, by omega, hF', z6, z7, z8⟩
  · cases hx : F
    · rw [hx] at hux
      simp at hux
      omega
    · rw [hF hx]
      rw [hx] at hux
      simp at hux ⊢
      omega
theorem K.fewer (h : K iss irs give take W U F got q u v t c) {q' : Int} (hq : c.tries ≤ q') : K iss irs give take W U F got q' u v t c := ⟨{ h.toK0 with tr := ⟨h.tr.1, hq⟩ }, h.tm⟩
end

/-- One round: what goes on of the connection ahead of what is lost or not. -/
def CN.pass (c : CN) (rest : List UInt8) (shut : Bool) : CN := if shut then ((c.tick.write rest).read 3000).close else (c.tick.write rest).read 3000
def CN.more (c : CN) (rest : List UInt8) : Nat := c.tick.wrote rest
def CN.told_ (c : CN) (rest : List UInt8) : List UInt8 := (c.tick.write rest).got 3000
structure PassR (iss irs : Int) (give take : List UInt8) (U : Nat) (F : Bool) (got : List UInt8) (q : Int) (W u t : Nat) (c : CN) (shut : Bool) (W' : Nat) (got' : List UInt8) (d : CN) (v' t' : Nat) : Prop where
  k : K iss irs give take W' U F got' (q + 1) u v' t' d
  st : ST d
  W : W ≤ W' ∧ W' ≤ take.length
  t : t ≤ t'
  rd : d.rb.ready = []
  rc : rcv got' d = rcv got c
  fill : W' = take.length ∨ u + 2048 ≤ W'
  ef : d.eof = c.eof
  ak : d.acked = c.acked
  s1 : d.state = 1 ↔ c.state = 1
  out : ∀ s ∈ c.out, s ∈ d.out
  s9 : d.state = 9 → c.state = 6 ∧ c.lingers = 1
  s6 : c.state = 6 → d.state = 9 ∨ (d.state = 6 ∧ d.lingers = c.lingers - 1)
  s6' : d.state = 6 → c.state = 6
  sh : shut = true → d.closed = true
  cl : c.closed = true → d.closed = true
  tm : d.state = 9 ∨ (d.left = c.left - 1 ∧ 0 < d.left ∧ d.tries = c.tries) ∨ (c.left = 0 ∧ d.tries = c.tries) ∨ c.state = 1 ∨ Cov iss take u d.out

section
variable {iss irs : Int} {give take : List UInt8} {W U : Nat} {F : Bool} {got : List UInt8} {q : Int} {u v t : Nat} {c : CN} {x y : EX}

theorem K.pass (h : K iss irs give take W U F got q u v t c) (hst : ST c) (hq : q + 1 ≤ 100) (h9 : c.state ≠ 9) {shut : Bool} (hsh : shut = true → W + c.more (take.drop W) = take.length) :
    ∃ v' t', PassR iss irs give take U F got q W u t c shut (W + c.more (take.drop W)) (got ++ c.told_ (take.drop W)) (c.pass (take.drop W) shut) v' t' := by
  obtain ⟨v1, t1, a1, a2, ⟨a3, a6⟩, a4, a5⟩ := h.tick hst hq h9
  obtain ⟨v2, t2, b1, b2, ⟨b3, b4⟩, b5, b6, -⟩ := a1.write a2
  have s2 := a2.kp b2
  obtain ⟨r1, r2, r3, r4, r5, r6, r7, r8, r9, r10, r11⟩ := b1.read
  have s3 : ST ((c.tick.write (take.drop W)).read 3000) := by unfold ST at s2 ⊢; rw [r4, r5, r6, r7]; exact s2
  have hrc : rcv (got ++ (c.tick.write (take.drop W)).got 3000) ((c.tick.write (take.drop W)).read 3000) = rcv got c := by
    rw [r3]
    unfold rcv
    rw [b2.rb, b2.ef, a3.rb, a3.ef]
  have hst9 : ((c.tick.write (take.drop W)).read 3000).state = c.tick.state := by rw [r4, b2.st]
  have hcl9 : ((c.tick.write (take.drop W)).read 3000).closed = c.closed := by rw [r5, b2.cl, a3.cl]
  have hef9 : ((c.tick.write (take.drop W)).read 3000).eof = c.eof := by rw [r6, b2.ef, a3.ef]
  have hak9 : ((c.tick.write (take.drop W)).read 3000).acked = c.acked := by rw [r7, b2.ak, a3.ak]
  have htr9 : ((c.tick.write (take.drop W)).read 3000).tries = c.tick.tries := by rw [r9, b2.tr]
  have hlg9 : ((c.tick.write (take.drop W)).read 3000).lingers = c.tick.lingers := by rw [r10, b2.lg]
  have hlf9 : 0 < c.tick.left → ((c.tick.write (take.drop W)).read 3000).left = c.tick.left := fun hl => by rw [r8, b6 hl]
  have hout9 : ∀ s ∈ c.tick.out, s ∈ ((c.tick.write (take.drop W)).read 3000).out := fun s hs => r11 s (b2.out s hs)
  have hcov : ∀ l l' : List Sg, (∀ s ∈ l, s ∈ l') → Cov iss take u l → Cov iss take u l' := fun l l' hll hc => by
    obtain ⟨s, hs, hc1⟩ := hc
    exact ⟨s, hll s hs, hc1⟩
  have hW9 : W + c.more (take.drop W) ≤ take.length := b1.wl
  unfold CN.pass CN.told_
  have hmw : W + c.more (take.drop W) = W + c.tick.wrote (take.drop W) := rfl
  rw [hmw]
  -- what a state is turned to
  have main : ∀ (d : CN) (v' t' : Nat), K iss irs give take (W + c.tick.wrote (take.drop W)) U F (got ++ (c.tick.write (take.drop W)).got 3000) (q + 1) u v' t' d → ST d → t2 ≤ t' → d.rb = ((c.tick.write (take.drop W)).read 3000).rb → d.eof = c.eof → d.acked = c.acked → d.tries = c.tick.tries → d.lingers = c.tick.lingers →
      (d.state = 1 ↔ c.tick.state = 1) → (d.state = 6 ↔ c.tick.state = 6) → (d.state = 9 ↔ c.tick.state = 9) → (∀ s ∈ ((c.tick.write (take.drop W)).read 3000).out, s ∈ d.out) → (0 < c.tick.left → d.left = c.tick.left) → (shut = true → d.closed = true) → (c.closed = true → d.closed = true) →
      PassR iss irs give take U F got q W u t c shut (W + c.tick.wrote (take.drop W)) (got ++ (c.tick.write (take.drop W)).got 3000) d v' t' := by
    intro d v' t' k1 k2 k3 k4 k5 k6 k7 k8 k9 k10 k11 k12 k13 k14 k15
    refine ⟨k1, k2, ⟨Nat.le_add_right _ _, hW9⟩, by omega, by rw [k4]; exact r2, ?_, b5, k5, k6, k9.trans a3.s1, fun s hs => k12 s (hout9 s (a3.out s hs)), fun hx => ?_, fun hx => ?_, fun hx => ?_, k14, k15, ?_⟩
    · rw [← hrc]
      unfold rcv
      rw [k4, k5, hef9]
    · have h1 := k11.1 hx
      rcases a4 with ⟨h2, h3, h4⟩ | ⟨h2, -⟩
      · exact ⟨h3, h4⟩
      · exact absurd (h2.symm.trans h1) h9
    · rcases a4 with ⟨h2, h3, h4⟩ | ⟨h2, h3⟩
      · exact .inl (k11.2 h2)
      · exact .inr ⟨k10.2 (h2.trans hx), by rw [k8]; exact h3 hx⟩
    · have h1 := k10.1 hx
      rcases a4 with ⟨h2, h3, h4⟩ | ⟨h2, h3⟩
      · exact h3
      · exact h2.symm.trans h1
    · rcases a5 with h1 | ⟨h1, h2, h3, h4⟩ | ⟨h1, h2, h3⟩ | h1 | h1
      · exact .inl (k11.2 h1)
      · exact .inr (.inl ⟨by rw [k13 h2]; exact h1, by rw [k13 h2]; exact h2, k7.trans h3⟩)
      · exact .inr (.inr (.inl ⟨h1, k7.trans h2⟩))
      · exact .inr (.inr (.inr (.inl h1)))
      · exact .inr (.inr (.inr (.inr (hcov _ _ (fun s hs => k12 s (hout9 s hs)) h1))))
  by_cases hsu : shut = true
  rotate_left
  · rw [if_neg hsu]
    exact ⟨v2, t2, main _ v2 t2 r1 s3 (Nat.le_refl _) rfl hef9 hak9 htr9 hlg9 (by rw [hst9]) (by rw [hst9]) (by rw [hst9]) (fun s hs => hs) hlf9 (fun hx => absurd hx hsu) (fun hx => hcl9.trans hx)⟩
  · rw [if_pos hsu]
    obtain ⟨v3, t3, c1, c2, c3, ⟨c4, c4'⟩, c5⟩ := r1.close s3 (hsh hsu)
    exact ⟨v3, t3, main _ v3 t3 c1 c2 c4' c3.rb (c3.ef.trans hef9) (c3.ak.trans hak9) (c3.tr.trans htr9) (c3.lg.trans hlg9) (c3.s1.trans (by rw [hst9])) (c3.s6.trans (by rw [hst9])) (c3.s9.trans (by rw [hst9])) c3.out (fun hl => by rw [c5 (by rw [hlf9 hl]; exact hl), hlf9 hl]) (fun _ => c3.cl) (fun _ => c3.cl)⟩
end
end Go.Proofs.Ytpmlojgngcllfaa
