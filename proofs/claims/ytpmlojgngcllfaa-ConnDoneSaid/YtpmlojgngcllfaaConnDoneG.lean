/- ConnDone: a segment of the other end, from one end to the other. No walk in sight. -/
import Derived.Test.YtpmlojgngcllfaaConnDoneF
namespace Go.Proofs.Ytpmlojgngcllfaa
open Go.RowKit Go

/-- What is so behind a segment of the other end. -/
structure InR (iss irs : Int) (give take : List UInt8) (W U : Nat) (F : Bool) (got : List UInt8) (q : Int) (u t H : Nat) (c d : CN) (u' v' t' : Nat) : Prop where
  k : K iss irs give take W U F got q u' v' t' d
  st : ST d
  cl : d.closed = c.closed
  uu : u ≤ u' ∧ t ≤ t'
  rc : rcv got c ≤ rcv got d
  fr : H = rcv got d ∨ ∃ s ∈ d.out, s.ack = (irs + 1 + (rcv got d : Int)) % 4294967296
  r9 : d.state = 9 → d.rb.ready = []
  r6 : d.state = 6 → d.lingers = 4 ∨ (c.state = 6 ∧ d.lingers = c.lingers ∧ d.rb.ready = [])
  tr : d.tries = 0 ∨ d.tries = c.tries
  a1 : H = rcv got c → u' = U + (if F then 1 else 0)
  a2 : H = rcv got c → d.state ≠ 1
  a3 : H = rcv got c → d.flows = true → eE W d.closed ≤ v' ∨ u' + 1000 ≤ v'
  a4 : H = rcv got c → (u < U + (if F then 1 else 0) ∨ c.state = 1) → d.tries = 0
  a5 : H = rcv got c → u = U + (if F then 1 else 0) → c.state ≠ 1 → 0 < c.left → d.state ≠ 9 → d.left = c.left
  a6 : H = rcv got c → c.eof = false → min (H + 100) give.length ≤ rcv got d ∧ (H = give.length → d.eof = true)
  a7 : c.eof = true → d.eof = true
  a8 : H = rcv got c → c.state = 6 → d.state = 6 ∧ d.lingers = c.lingers

section
variable {iss irs : Int} {give take : List UInt8} {W U : Nat} {F : Bool} {got : List UInt8} {q : Int} {u v t : Nat} {c : CN} {H : Nat}

theorem fits_now (h : K iss irs give take W U F got q u v t c) (hH : H = rcv got c) : c.fits (sayS iss irs give U F H) = true := by
  have hs : (sayS iss irs give U F H).seq = c.want := by rw [h.toK0.want, ← hH]; rfl
  have hz : ahd c.want c.want = 0 := by unfold ahd; omega
  unfold CN.fits mayB
  rw [hs]
  have hw : 1 ≤ max (c.rb.win : Int) 1 := by omega
  generalize max (c.rb.win : Int) 1 = w at *
  generalize (sayS iss irs give U F H).len = L at *
  have hin : inB c.want c.want (max w 0) = true := by unfold inB; rw [hz]; simp; omega
  rw [if_neg (by omega)]
  split
  · exact hin
  · rw [if_neg (by omega), hin]
    rfl
/-- The acknowledgement is taken. -/
theorem K.answers (h : K iss irs give take W U F got q u v t c) (hst : ST c) (h9 : c.state ≠ 9) (hal : alg take.length (U + (if F then 1 else 0))) (hf : W = take.length ∨ u + 2048 ≤ W) :
    ∃ d v', (c.answers (sayS iss irs give U F H)).1 = true ∧ (c.answers (sayS iss irs give U F H)).2.covers (sayS iss irs give U F H).ack = d ∧ K iss irs give take W U F got q (U + (if F then 1 else 0)) v' t d ∧ PT d ∧ d.closed = c.closed ∧ d.eof = c.eof ∧ d.rb = c.rb ∧ d.out = c.out ∧
      (c.state ≠ 1 → d.state = c.state ∧ d.lingers = c.lingers) ∧ (d.tries = 0 ∨ d.tries = c.tries) ∧ (u < U + (if F then 1 else 0) ∨ c.state = 1 → d.tries = 0) ∧ (u = U + (if F then 1 else 0) → c.state ≠ 1 → d.left = c.left) ∧ u ≤ U + (if F then 1 else 0) ∧ (c.state = 1 → d.state ≠ 6) := by
  obtain ⟨b1, b2, b3, b4⟩ := h.toK0.bd
  have hux := h.ux
  have hxt := h.xt
  have htw := h.tw
  by_cases h1 : c.state = 1
  · obtain ⟨z1, z2, z3, z4, z5, z6, z7, z8⟩ := h.one h1
    have hac : (sayS iss irs give U F H).ack = (c.iss + 1) % M32 := by
      rw [h.isq]
      subst z4 z5
      show (iss + 1 + ((0 : Nat) : Int)) % 4294967296 = (iss + 1) % 4294967296
      omega
    have ha : c.answers (sayS iss irs give U F H) = (true, { c with state := if c.closed then 3 else 2, window := 1000, seq := (sayS iss irs give U F H).seq, ack := (sayS iss irs give U F H).ack }) := by
      unfold CN.answers
      rw [if_pos h1, if_pos hac]
      rfl
    obtain ⟨k1, k2, k3, k4, k5, k6, k7, k8, k9, k10⟩ := h.begin h1 hf (X := if c.closed then 3 else 2) (by cases c.closed <;> simp) (sayS iss irs give U F H).seq (sayS iss irs give U F H).ack
    have hst1 : c.eof = false ∧ c.acked = false := by unfold ST at hst; rw [h1] at hst; simpa using hst
    obtain ⟨d, hd⟩ : ∃ d : CN, d = CN.covers { c with state := (if c.closed then 3 else 2), window := 1000, seq := (sayS iss irs give U F H).seq, ack := (sayS iss irs give U F H).ack } ((iss + 1 + (U + (if F then 1 else 0) : Nat)) % 4294967296) := ⟨_, rfl⟩
    rw [← hd] at k1 k3 k4 k5 k6 k7 k8 k9 k10
    have kk : K iss irs give take W U F got q (U + (if F then 1 else 0)) v t d := by rw [k2]; exact k1
    refine ⟨d, v, by rw [ha], by rw [ha, hd]; rfl, kk, ?_, k4, k5, k7, k9, fun hx => absurd h1 hx, .inl k10, fun _ => k10, fun _ hx => absurd h1 hx, by omega, fun _ => ?_⟩
    · unfold PT
      rw [k3, k4, k5, k6, hst1.1, hst1.2]
      cases c.closed <;> simp
    · rw [k3]
      cases c.closed <;> simp
  · have hl1 : lessB (sayS iss irs give U F H).ack c.una = false := by
      rw [h.toK0.una1 h1]
      have := less_off (iss + 1) (a := U + (if F then 1 else 0)) (b := u) (by omega) (by omega)
      rw [show (sayS iss irs give U F H).ack = (iss + 1 + ((U + (if F then 1 else 0) : Nat) : Int)) % 4294967296 from rfl, this]
      simpa using hux
    have hl2 : lessB c.top (sayS iss irs give U F H).ack = false := by
      rw [h.top]
      have := less_off (iss + 1) (a := t) (b := U + (if F then 1 else 0)) (by omega) (by omega)
      rw [show (sayS iss irs give U F H).ack = (iss + 1 + ((U + (if F then 1 else 0) : Nat) : Int)) % 4294967296 from rfl, this]
      simpa using hxt
    have ha : c.answers (sayS iss irs give U F H) = (true, c) := by
      unfold CN.answers
      rw [if_neg h1, hl1, hl2]
      rfl
    obtain ⟨v', k1, k2, k3, k4, k5, k6, k7, k8, k9⟩ := h.covers h1 rfl hal hf
    rw [ha]
    refine ⟨_, v', rfl, rfl, k1, ?_, k3, k4, k5, k7, fun _ => ⟨k2, k6⟩, ?_, fun hx => ?_, fun hx _ => by
      show (c.covers _).left = c.left
      have := k8 hx
      rw [show (sayS iss irs give U F H).ack = (iss + 1 + ((U + (if F then 1 else 0) : Nat) : Int)) % 4294967296 from rfl, this], hux, fun hx => absurd hx h1⟩
    · have hak := k1.ak
      have hak0 := h.ak
      rw [show (sayS iss irs give U F H).ack = (iss + 1 + ((U + (if F then 1 else 0) : Nat) : Int)) % 4294967296 from rfl]
      have hac : c.acked = true → (c.covers ((iss + 1 + ((U + (if F then 1 else 0) : Nat) : Int)) % 4294967296)).acked = true := fun hx => hak.2 (by
        have := hak0.1 hx
        unfold eE at htw
        split at htw <;> omega)
      have hna : c.closed = false → (c.covers ((iss + 1 + ((U + (if F then 1 else 0) : Nat) : Int)) % 4294967296)).acked = false := fun hx => by
        cases hy : (c.covers ((iss + 1 + ((U + (if F then 1 else 0) : Nat) : Int)) % 4294967296)).acked
        · rfl
        · have := hak.1 hy
          unfold eE at htw
          rw [hx] at htw
          simp at htw
          omega
      unfold PT
      rw [k2, k3, k4]
      unfold ST at hst
      rcases hst with ⟨x1, x2, x3⟩ | ⟨x1, x2, x3, x4⟩ | ⟨x1, x2, x3, x4⟩ | ⟨x1, x2, x3, x4⟩ | ⟨x1, x2, x3, x4⟩ | ⟨x1, x2, x3, x4⟩ | ⟨x1, x2, x3, x4⟩ | ⟨x1, x2, x3, x4⟩ | ⟨x1, x2, x3, x4⟩
      · exact absurd x1 h1
      · exact .inl ⟨x1, x2, x3, hna x2⟩
      · exact .inr (.inl ⟨x1, x2, x3⟩)
      · exact .inr (.inr (.inl ⟨x1, x2, x3, hac x4⟩))
      · exact .inr (.inr (.inr (.inl ⟨x1, x2, x3⟩)))
      · exact .inr (.inr (.inr (.inr (.inl ⟨x1, x2, x3, hac x4⟩))))
      · exact .inr (.inr (.inr (.inr (.inr (.inl ⟨x1, x2, x3, hna x2⟩)))))
      · exact .inr (.inr (.inr (.inr (.inr (.inr ⟨x1, x2, x3⟩)))))
      · exact absurd x1 h9
    · rcases (by omega : u = U + (if F then 1 else 0) ∨ u < U + (if F then 1 else 0)) with hx | hx
      · right
        show (c.covers _).tries = c.tries
        rw [show (sayS iss irs give U F H).ack = (iss + 1 + ((U + (if F then 1 else 0) : Nat) : Int)) % 4294967296 from rfl, k8 hx]
      · exact .inl (k9 hx)
    · rcases hx with hx | hx
      · exact k9 hx
      · exact absurd hx h1
theorem K.inn (h : K iss irs give take W U F got q u v t c) (hst : ST c) (h9 : c.state ≠ 9) (hH : H ≤ rcv got c) (hal : alg take.length (U + (if F then 1 else 0))) (hf : W = take.length ∨ u + 2048 ≤ W) (hr : c.rb.ready = []) :
    ∃ u' v' t', InR iss irs give take W U F got q u t H c (c.inn (sayS iss irs give U F H)) u' v' t' := by
  have hfl : hasF (sayS iss irs give U F H).flags 4 = false ∧ hasF (sayS iss irs give U F H).flags 6 = false ∧ hasF (sayS iss irs give U F H).flags 16 = true := by
    show hasF (if H = give.length then 17 else 16) 4 = false ∧ hasF (if H = give.length then 17 else 16) 6 = false ∧ hasF (if H = give.length then 17 else 16) 16 = true
    split
    · exact ⟨hasF_17.2.2.1, hasF_17.2.2.2.1, hasF_17.2.2.2.2⟩
    · exact ⟨hasF_16.2.2.1, hasF_16.2.2.2.1, hasF_16.2.2.2.2⟩
  obtain ⟨f4, f6, f16⟩ := hfl
  unfold CN.inn
  rw [if_neg h9]
  cases hfit : c.fits (sayS iss irs give U F H)
  · have hc : c.counts (sayS iss irs give U F H) = (false, c.tell) := by
      unfold CN.counts
      rw [if_neg (by rw [hfit]; decide), if_neg (by rw [f4]; decide)]
    rw [hc]
    have hne : H ≠ rcv got c := fun hx => by rw [fits_now h hx] at hfit; cases hfit
    refine ⟨u, v, t, h.tell, hst, rfl, ⟨Nat.le_refl _, Nat.le_refl _⟩, Nat.le_refl _, .inr ⟨⟨c.frm, c.dst, c.nxt, c.want, 16, c.rb.win, 0, []⟩, List.mem_append.2 (.inr (List.mem_singleton.2 rfl)), h.toK0.want⟩, fun hx => absurd hx h9, fun hx => .inr ⟨hx, rfl, hr⟩, .inr rfl, fun hx => absurd hx hne, fun hx => absurd hx hne, fun hx => absurd hx hne, fun hx => absurd hx hne, fun hx => absurd hx hne, fun hx => absurd hx hne, fun hx => hx, fun hx => absurd hx hne⟩
  · have hc : c.counts (sayS iss irs give U F H) = c.answers (sayS iss irs give U F H) := by
      unfold CN.counts
      rw [if_pos hfit, if_neg (by rw [f4]; rintro ⟨hx, -⟩; cases hx), if_neg (by rw [f6]; decide), if_pos f16]
    obtain ⟨d, v1, g1, g2, k1, p1, e1, e2, e3, e4, e5, e6, e7, e8, e9, e10⟩ := h.answers (H := H) hst h9 hal hf
    rw [hc, if_pos g1]
    unfold CN.inn2
    rw [g2]
    have hd1 : d.state ≠ 1 := by unfold PT at p1; omega
    obtain ⟨o1, o2, o3, o4, o5, o6, o7, o8, o9, o10⟩ := k1.opens hd1 (s := sayS iss irs give U F H) rfl
    have p2 : PT (d.opens (sayS iss irs give U F H)) := by unfold PT at *; rw [o2, o3, o4, o5]; exact p1
    obtain ⟨a1, a2, a3, a4, a5, a6, a7, a8, a9, a10, a11⟩ := o1.acks p2
    have hrc : rcv got (d.opens (sayS iss irs give U F H)).acks = rcv got c := by unfold rcv; rw [a7, a5, o6, o4, e3, e2]
    obtain ⟨t1, t2, t3, t4, t5, t6, t7, t8, t9, t10, t11, t12, t13, t14, t15⟩ := a1.takes (H := H) a2 a3 (by rw [a7, o6, e3]; exact hr) (by rw [hrc]; exact hH)
    generalize ((d.opens (sayS iss irs give U F H)).acks).takes (sayS iss irs give U F H) = m at *
    obtain ⟨v', t', z1, z2, z3, z4, z5, z6⟩ := t1.flush
    have hmr : rcv got m.flush = rcv got m := by unfold rcv; rw [z2.rb, z2.ef]
    have hmw : m.want = (irs + 1 + (rcv got m : Int)) % 4294967296 := t1.toK0.want
    -- the echo
    obtain ⟨n, hn, kn, n1, n2, n3, n4, n5, n6, n7, n8, n9⟩ : ∃ n : CN, m.flush.echo (sayS iss irs give U F H) m.out.length = n ∧ K iss irs give take W U F got q (U + (if F then 1 else 0)) v' t' n ∧ n.state = m.state ∧ n.closed = m.closed ∧ n.eof = m.eof ∧ n.acked = m.acked ∧ n.rb = m.rb ∧ n.lingers = m.lingers ∧ n.tries = m.tries ∧ n.left = m.flush.left ∧
        (H = rcv got m ∨ ∃ s ∈ n.out, s.ack = (irs + 1 + (rcv got m : Int)) % 4294967296) := by
      unfold CN.echo
      by_cases hq : 0 < (sayS iss irs give U F H).len ∧ m.flush.out.length = m.out.length
      · rw [if_pos hq]
        refine ⟨_, rfl, z1.tell, z2.st, z2.cl, z2.ef, z2.ak, z2.rb, z2.lg, z2.tr, rfl, .inr ⟨⟨m.flush.frm, m.flush.dst, m.flush.nxt, m.flush.want, 16, m.flush.rb.win, 0, []⟩, List.mem_append.2 (.inr (List.mem_singleton.2 rfl)), ?_⟩⟩
        show m.flush.want = _
        rw [z1.toK0.want, hmr]
      · rw [if_neg hq]
        refine ⟨_, rfl, z1, z2.st, z2.cl, z2.ef, z2.ak, z2.rb, z2.lg, z2.tr, rfl, ?_⟩
        rcases z6 with hx | ⟨s, hs, ha⟩
        · left
          have hlen : ¬ 0 < (sayS iss irs give U F H).len := fun hy => hq ⟨hy, by rw [hx]⟩
          obtain ⟨r1, r2, r3, r4⟩ := t1.toK0.rcv_le
          have hne : H ≠ give.length := fun hy => by
            apply hlen
            unfold Sg.len
            have : (sayS iss irs give U F H).flags = 17 := if_pos hy
            rw [this, hasF_17.1, hasF_17.2.1]
            simp
          have hdl : ((give.drop H).take 100).length = 0 := by
            unfold Sg.len at hlen
            have : (sayS iss irs give U F H).flags = 16 := if_neg hne
            rw [this, hasF_16.1, hasF_16.2.1] at hlen
            have h5 : (sayS iss irs give U F H).data = (give.drop H).take 100 := rfl
            rw [h5] at hlen
            simp only [Bool.false_eq_true, if_false, Int.add_zero] at hlen
            omega
          rw [List.length_take, List.length_drop] at hdl
          rw [hrc] at t9
          omega
        · exact .inr ⟨s, hs, by rw [ha, hmw]⟩
    rw [hn]
    have hrn : rcv got n = rcv got m := by unfold rcv; rw [n5, n3]
    rw [hrc] at t9 t13
    refine ⟨_, v', t', kn, ?_, by rw [n2, t4, a4, o3, e1], ⟨e9, z3.2⟩, by rw [hrn]; exact t9, by rw [hrn]; exact n9, fun hx => by rw [n5]; exact t11 (by rw [← n1]; exact hx), fun hx => ?_, ?_, fun _ => rfl, fun _ => by rw [n1]; exact t3, fun _ hx => ?_, fun _ hx => ?_, fun _ hx hy hz hw => ?_, fun hx hy => ?_, fun hx => ?_, fun hx hy => ?_⟩
    · unfold ST at *
      rw [n1, n2, n3, n4]
      exact t2
    · rw [n6, n5]
      rw [n1] at hx
      rcases t12 hx with hy | ⟨hy1, hy2, hy3⟩
      · exact .inl hy
      · rcases a11 hy1 with hz | ⟨hz1, hz2⟩
        · exact .inl (by rw [hy2, hz])
        · rw [o2] at hz1
          right
          by_cases h1 : c.state = 1
          · exact absurd hz1 (e10 h1)
          · exact ⟨by rw [← (e5 h1).1]; exact hz1, by rw [hy2, hz2, o7, (e5 h1).2], hy3⟩
    · rw [n7, t7, a9, o9]
      exact e6
    · have hfl : m.flows = true := by unfold CN.flows at hx ⊢; rw [n1] at hx; exact hx
      have := z4 hfl
      rw [n2]
      exact this
    · rw [n7, t7, a9, o9]
      exact e7 hx
    · have ha9 : (d.opens (sayS iss irs give U F H)).acks.state ≠ 9 := fun h5 => hw (by rw [n1]; exact t10.2 h5)
      have hml : m.left = c.left := by rw [t8, a10 ha9, o10, e8 hx hy]
      rw [n8, z5 (by rw [hml]; exact hz), hml]
    · have h5 := t13 hx (by rw [a5, o4, e2]; exact hy)
      rw [hrn, n3]
      exact h5
    · rw [n3]
      exact t14 (by rw [a5, o4, e2]; exact hx)
    · have hc6 : c.eof = true := by unfold ST at hst; rw [hy] at hst; simp at hst; exact hst.2.1
      have hne : H ≠ give.length := by have := h.toK0.rcv_le.2.1 hc6; omega
      obtain ⟨x1, x2⟩ := t15 hne
      have h1 : c.state ≠ 1 := by rw [hy]; decide
      have hd6 : (d.opens (sayS iss irs give U F H)).state = 6 := by rw [o2, (e5 h1).1]; exact hy
      have ha := CN.acks_six hd6
      rw [n1, n6, x1, x2, ha]
      exact ⟨hd6, by rw [o7, (e5 h1).2]⟩
end
end Go.Proofs.Ytpmlojgngcllfaa
