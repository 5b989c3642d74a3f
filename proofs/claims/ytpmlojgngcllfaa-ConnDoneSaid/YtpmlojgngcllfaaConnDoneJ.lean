/- ConnDone: the rounds, and that they end. No walk in sight. -/
import Derived.Test.YtpmlojgngcllfaaConnDoneI
namespace Go.Proofs.Ytpmlojgngcllfaa
open Go.RowKit Go

def units (T u : Nat) : Nat := if u = T + 1 then 0 else 1 + (T - u + 99) / 100
def gun (G r : Nat) (e : Bool) : Nat := if e then 0 else 1 + (G - r + 99) / 100
def lin (c : CN) : Nat := if c.state = 6 then c.lingers.toNat else 5
def mu (T G : Nat) (got : List UInt8) (u : Nat) (c : CN) : Nat := 9 * units T u + c.left.toNat + gun G (rcv got c) c.eof + lin c
theorem units_le {T u : Nat} (hT : T ≤ 3000) : units T u ≤ 31 := by unfold units; split <;> omega
theorem gun_le {G r : Nat} (e : Bool) (hG : G ≤ 3000) : gun G r e ≤ 31 := by unfold gun; split <;> omega
theorem units_lt {T u u' : Nat} (h : u < u') (h' : u' ≤ T + 1) (a : alg T u) (a' : alg T u') : units T u' + 1 ≤ units T u := by
  unfold units alg at *
  rcases (by omega : u' = T + 1 ∨ u' ≤ T) with h1 | h1
  · rw [if_pos h1]
    split <;> omega
  · rw [if_neg (by omega), if_neg (by omega)]
    omega
theorem gun_mono {G r r' : Nat} {e e' : Bool} (h : r ≤ r') (he : e = true → e' = true) : gun G r' e' ≤ gun G r e := by
  unfold gun
  cases e
  · cases e'
    · simp; omega
    · simp
  · rw [he rfl]
    simp

structure RIu (iss irs : Int) (give take : List UInt8) (i : Nat) (x : EX) (c : CN) (got : List UInt8) (q : Int) (u v t : Nat) : Prop where
  k : K iss irs give take x.W x.U x.F got q u v t c
  kq : c.state ≠ 9 → q ≤ ((min i 61 : Nat) : Int)
  xi : XI take t x
  st : ST c
  hh : x.H ≤ rcv got c
  r9 : c.state = 9 → c.rb.ready = []
  r6 : c.state = 6 → c.lingers = 4 ∨ c.rb.ready = []
  mo : x.most = 1000 ∨ (x.most = 0 ∧ c.state = 1)
  fr : 61 ≤ i → c.state ≠ 9 → x.H = rcv got c ∨ ∃ s ∈ c.out, s.ack = (irs + 1 + (rcv got c : Int)) % 4294967296
  lv : 257 ≤ i → c.state ≠ 9 → c.state ≠ 1 ∧ (x.W = take.length → c.closed = true) ∧ (c.acked = false → u < t) ∧ mu take.length give.length got u c + i ≤ 700
def RI (iss irs : Int) (give take : List UInt8) (i : Nat) (x : EX) (c : CN) (got : List UInt8) : Prop := ∃ q u v t, RIu iss irs give take i x c got q u v t

def EX.wr (x : EX) (n : Nat) : EX := { x with W := x.W + n }
def EX.say (x : EX) : EX := { x with most := max x.most 1000 }

section
variable {iss irs : Int} {give take : List UInt8} {i : Nat} {x : EX} {c : CN} {got : List UInt8}

/-- Ahead of what comes: what was heard. -/
theorem RIu.mid {q : Int} {u v t : Nat} (h : RIu iss irs give take i x c got q u v t) (h9 : c.state ≠ 9) {shut m1 : Bool} (hsh : shut = true → x.W + c.more (take.drop x.W) = take.length) :
    ∃ v' t', PassR iss irs give take x.U x.F got q x.W u t c shut (x.W + c.more (take.drop x.W)) (got ++ c.told_ (take.drop x.W)) (c.pass (take.drop x.W) shut) v' t' ∧
      XI take t' (if m1 then (x.wr (c.more (take.drop x.W))).hears iss irs (c.pass (take.drop x.W) shut).out else x.wr (c.more (take.drop x.W))) ∧
      XG (x.wr (c.more (take.drop x.W))) (if m1 then (x.wr (c.more (take.drop x.W))).hears iss irs (c.pass (take.drop x.W) shut).out else x.wr (c.more (take.drop x.W))) ∧
      (if m1 then (x.wr (c.more (take.drop x.W))).hears iss irs (c.pass (take.drop x.W) shut).out else x.wr (c.more (take.drop x.W))).H ≤ rcv (got ++ c.told_ (take.drop x.W)) (c.pass (take.drop x.W) shut) ∧
      (m1 = true → 61 ≤ i → (if m1 then (x.wr (c.more (take.drop x.W))).hears iss irs (c.pass (take.drop x.W) shut).out else x.wr (c.more (take.drop x.W))).H = rcv (got ++ c.told_ (take.drop x.W)) (c.pass (take.drop x.W) shut)) ∧
      (m1 = true → Cov iss take u (c.pass (take.drop x.W) shut).out → u < (if m1 then (x.wr (c.more (take.drop x.W))).hears iss irs (c.pass (take.drop x.W) shut).out else x.wr (c.more (take.drop x.W))).U + (if (if m1 then (x.wr (c.more (take.drop x.W))).hears iss irs (c.pass (take.drop x.W) shut).out else x.wr (c.more (take.drop x.W))).F then 1 else 0)) := by
  obtain ⟨v', t', p⟩ := h.k.pass h.st (by have := h.kq h9; omega) h9 hsh
  have hx1 : XI take t' (x.wr (c.more (take.drop x.W))) := (h.xi.write (Nat.le_add_right _ _) p.W.2).later p.t
  have hn := p.k.toK0.rcv_le.1
  have hg := p.k.toK0.rcv_le.2.2.2
  have hH : (x.wr (c.more (take.drop x.W))).H ≤ rcv (got ++ c.told_ (take.drop x.W)) (c.pass (take.drop x.W) shut) := by rw [p.rc]; exact h.hh
  refine ⟨v', t', p, ?_⟩
  cases m1
  · exact ⟨hx1, XG.refl _, hH, fun hx => (by cases hx), fun hx => (by cases hx)⟩
  · obtain ⟨a1, a2, a3, a4, a5⟩ := XI.hears (iss := iss) (irs := irs) (W := x.W + c.more (take.drop x.W)) (t := t') (cl := (c.pass (take.drop x.W) shut).closed) (n := rcv (got ++ c.told_ (take.drop x.W)) (c.pass (take.drop x.W) shut)) (fun y hc hy => by rw [hy]; exact p.k.cl hc) p.k.tl (by omega) (c.pass (take.drop x.W) shut).out (x.wr (c.more (take.drop x.W))) rfl hx1 (fun s hs => p.k.out s hs) hH
    refine ⟨a1, a2, a3, fun _ hi => ?_, fun _ hc => ?_⟩
    · rcases h.fr hi h9 with h1 | ⟨s, hs, ha⟩
      · have := a2.H
        have h2 : (x.wr (c.more (take.drop x.W))).H = x.H := rfl
        have h3 := p.rc
        have h4 := a3
        simp only [if_true] at *
        omega
      · have h3 := a4 s (p.out s hs) (rcv got c) (by rw [← p.rc]; omega) ha
        have h4 := a3
        have h5 := p.rc
        simp only [if_true] at *
        omega
    · have hc2 := hc
      obtain ⟨s, hs, -, hv⟩ := hc
      have hux := h.k.ux
      have hut : u ≤ take.length := by rcases hv with hv | hv <;> omega
      have huU : u ≤ (x.wr (c.more (take.drop x.W))).U := by
        show u ≤ x.U
        cases hF : x.F
        · rw [hF] at hux; simpa using hux
        · have := (h.k.fx hF).1; omega
      have h6 := a5 u huU hut hc2
      have h7 := nextv_lt take.length u
      simp only [if_true]
      omega
theorem RI.round (h : RI iss irs give take i x c got) (h9 : c.state ≠ 9) {shut m1 m0 : Bool} (hsh : shut = true → x.W + c.more (take.drop x.W) = take.length) (hall : 256 ≤ i → x.W + c.more (take.drop x.W) = take.length → shut = true) (hm : 60 ≤ i → m1 = true ∧ m0 = true) {y : EX}
    (hy : y = if m1 then (x.wr (c.more (take.drop x.W))).hears iss irs (c.pass (take.drop x.W) shut).out else x.wr (c.more (take.drop x.W))) :
    RI iss irs give take (i + 1) y.say (if m0 then (c.pass (take.drop x.W) shut).drain.inn (sayS iss irs give y.U y.F y.H) else (c.pass (take.drop x.W) shut).drain) (got ++ c.told_ (take.drop x.W)) := by
  obtain ⟨q, u, v, t, h⟩ := h
  have hkq := h.kq h9
  obtain ⟨v', t', p, e1, e2, e3, e4, e5⟩ := h.mid h9 (m1 := m1) hsh
  rw [← hy] at e1 e2 e3 e4 e5
  obtain ⟨d, hd⟩ : ∃ d, d = c.pass (take.drop x.W) shut := ⟨_, rfl⟩
  obtain ⟨got', hg⟩ : ∃ g, g = got ++ c.told_ (take.drop x.W) := ⟨_, rfl⟩
  obtain ⟨W', hW⟩ : ∃ W', W' = x.W + c.more (take.drop x.W) := ⟨_, rfl⟩
  rw [← hd] at p e3 e4 e5
  rw [← hg] at p e3 e4
  rw [← hW] at p hsh hall
  rw [← hd, ← hg]
  have hyW : y.W = W' := by rw [e2.W, hW]; rfl
  have hyU : x.U ≤ y.U := e2.U
  have hyF : x.F = true → y.F = true := e2.F
  have hfx := e1.fx
  have k1 : K iss irs give take y.W y.U y.F got' (q + 1) u v' t' d.drain := by
    rw [hyW]
    rw [hyW] at hfx
    exact (p.k.more hyU hyF (by have := e1.uw; omega) e1.ut hfx).drain
  have hymo : y.say.most = 1000 := by
    have h1 : y.most = x.most := e2.most
    show max y.most 1000 = 1000
    rw [h1]
    rcases h.mo with h2 | ⟨h2, -⟩ <;> rw [h2] <;> decide
  have hxs : XI take t' y.say := ⟨e1.tl, e1.pre, e1.top, e1.blk, e1.mx, e1.uw, e1.wt, e1.fx, e1.ut⟩
  have hstd : ST d.drain := p.st
  have hrd : d.drain.rb.ready = [] := p.rd
  have hrc : rcv got' d.drain = rcv got' d := rfl
  have hHd : y.H ≤ rcv got' d.drain := e3
  -- nothing comes
  have hnone : (i + 1 ≤ 60 ∨ d.state = 9) → RI iss irs give take (i + 1) y.say d.drain got' := fun hor =>
    ⟨q + 1, u, v', t', k1, fun hx => by
      rcases hor with h1 | h1
      · omega
      · exact absurd h1 hx, hxs, hstd, hHd, fun _ => hrd, fun _ => .inr hrd, .inl hymo, fun hi2 hx => by
      rcases hor with h1 | h1
      · omega
      · exact absurd h1 hx, fun hi2 hx => by
      rcases hor with h1 | h1
      · omega
      · exact absurd h1 hx⟩
  by_cases hd9 : d.state = 9
  · have he : (if m0 = true then d.drain.inn (sayS iss irs give y.U y.F y.H) else d.drain) = d.drain := by
      split
      · unfold CN.inn
        rw [if_pos (show d.drain.state = 9 from hd9)]
      · rfl
    rw [he]
    exact hnone (.inr hd9)
  by_cases hm0 : m0 = true
  rotate_left
  · rw [if_neg hm0]
    refine hnone (.inl ?_)
    rcases (by omega : 60 ≤ i ∨ i + 1 ≤ 60) with h1 | h1
    · exact absurd (hm h1).2 hm0
    · exact h1
  rw [if_pos hm0]
  obtain ⟨u', v'', t'', r⟩ := k1.inn (H := y.H) hstd hd9 hHd e1.al (by rw [hyW]; have := p.fill; omega) hrd
  generalize hc' : d.drain.inn (sayS iss irs give y.U y.F y.H) = c' at *
  have hWy : y.say.W = y.W := rfl
  -- while nothing is lost
  have hfresh : 61 ≤ i → y.H = rcv got' d.drain := fun hi => e4 (hm (by omega)).1 hi
  have htr : 61 ≤ i → c'.state ≠ 9 → c'.tries ≤ 61 := fun hi hx => by
    have hf := hfresh hi
    have hct := h.k.tr.2
    rcases r.tr with h1 | h1
    · omega
    · have hdt : c'.tries = d.tries := h1
      rcases p.tm with h2 | ⟨-, -, h2⟩ | ⟨-, h2⟩ | h2 | h2
      · exact absurd h2 hd9
      · omega
      · omega
      · have := r.a4 hf (.inr (p.s1.2 h2)); omega
      · have := r.a4 hf (.inl (e5 (hm (by omega)).1 h2)); omega
  have kk : ∃ q', K iss irs give take y.say.W y.say.U y.say.F got' q' u' v'' t'' c' ∧ (c'.state ≠ 9 → q' ≤ ((min (i + 1) 61 : Nat) : Int)) := by
    by_cases hx : c'.state = 9
    · exact ⟨_, r.k, fun hx2 => absurd hx hx2⟩
    · rcases (by omega : i ≤ 60 ∨ 61 ≤ i) with hi | hi
      · exact ⟨_, r.k, fun _ => by omega⟩
      · exact ⟨61, r.k.fewer (htr hi hx), fun _ => by omega⟩
  obtain ⟨q', kk, kq'⟩ := kk
  refine ⟨q', u', v'', t'', kk, kq', hxs.later r.uu.2, r.st, Nat.le_trans hHd r.rc, r.r9, fun hx => ?_, .inl hymo, fun _ _ => r.fr, fun hi hx => ?_⟩
  · rcases r.r6 hx with h1 | ⟨-, -, h1⟩
    · exact .inl h1
    · exact .inr h1
  have hf := hfresh (by omega)
  have ha1 := r.a1 hf
  have hs1 := r.a2 hf
  have hT := kk.tl
  have hG := kk.toK0.rcv_le.2.2.2
  have hcl : y.say.W = take.length → c'.closed = true := fun h1 => by
    rw [r.cl]
    exact p.sh (hall (by omega) (by rw [← hyW]; exact h1))
  have hak := kk.ak
  have htw := kk.tw
  have huv := kk.uv
  have hvt := kk.vt
  have hbusy : c'.acked = false → u' < t'' := fun h1 => by
    have hst := r.st
    have hfl : c'.flows = true := by
      unfold ST at hst
      unfold CN.flows
      rw [h1] at hst
      simp at hst
      simp
      omega
    have hun : u' ≠ y.say.W + 1 := fun h2 => by rw [hak.2 h2] at h1; cases h1
    rcases r.a3 hf hfl with h2 | h2
    · cases hcc : c'.closed
      · have hnW : y.say.W ≠ take.length := fun h3 => by rw [hcl h3] at hcc; cases hcc
        have hfi := kk.fill hs1
        rw [hcc] at h2
        unfold eE at h2
        simp at h2
        rw [hWy] at hfi hnW
        omega
      · rw [hcc] at h2 htw
        unfold eE at h2 htw
        simp at h2 htw
        rw [hWy] at hun htw
        omega
    · omega
  refine ⟨hs1, hcl, hbusy, ?_⟩
  have hl8 := kk.l8
  have hlg := kk.lg
  have hlin : lin c' ≤ 5 := by
    unfold lin
    split
    · rename_i h6
      have := hlg h6
      omega
    · omega
  have hgm : gun give.length (rcv got' c') c'.eof ≤ gun give.length (rcv got c) c.eof := gun_mono (by rw [← p.rc]; exact r.rc) fun h1 => r.a7 (by show d.eof = true; rw [p.ef]; exact h1)
  rcases (by omega : i = 256 ∨ 257 ≤ i) with hi2 | hi2
  · have h1 := units_le (u := u') hT
    have h2 := gun_le (r := rcv got' c') c'.eof hG
    unfold mu
    omega
  · obtain ⟨l1, l2, l3, l4⟩ := h.lv hi2 h9
    have hstc := h.st
    have hle : mu take.length give.length got' u' c' + 1 ≤ mu take.length give.length got u c := by
      have hkal := h.k.al.1
      have hkal' := kk.al.1
      have hcl8 := h.k.l8
      have hut1 : t'' ≤ take.length + 1 := by
        have := kk.wl
        unfold eE at htw
        split at htw <;> omega
      cases hca : c.acked
      · have hut := l3 hca
        have hcl0 : 0 < c.left := (h.k.tm h9).2 (.inl hut)
        have hc6 : c.state ≠ 6 := fun h6 => by unfold ST at hstc; rw [h6, hca] at hstc; simp at hstc
        have hlc : lin c = 5 := by unfold lin; rw [if_neg hc6]
        have huu := r.uu.1
        rcases (by omega : u = u' ∨ u < u') with h1 | h1
        · have hdl : d.left = c.left - 1 ∧ 0 < d.left := by
            rcases p.tm with h2 | ⟨h2, h3, -⟩ | ⟨h2, -⟩ | h2 | h2
            · exact absurd h2 hd9
            · exact ⟨h2, h3⟩
            · omega
            · exact absurd h2 l1
            · have := e5 (hm (by omega)).1 h2; omega
          have h2 := r.a5 hf (by omega) (fun h3 => l1 (p.s1.1 h3)) hdl.2 hx
          have h3 : c'.left = d.left := h2
          unfold mu
          rw [hlc, ← h1]
          omega
        · have h2 := units_lt h1 (by omega) hkal hkal'
          unfold mu
          rw [hlc]
          omega
      · have hck := h.k.ak.1 hca
        have hcc : c.closed = true := by unfold ST at hstc; rw [hca] at hstc; simp at hstc; rcases hstc with h5 | h5 | h5 <;> exact h5.2.1
        have hWT := h.k.cl hcc
        have hu : u = take.length + 1 := by omega
        have huu := r.uu.1
        have hu' : u' = take.length + 1 := by omega
        have ht : ¬ u < t := by
          have := h.k.tw
          have := h.k.wl
          unfold eE at this
          have h5 := h.k.tw
          unfold eE at h5
          split at h5 <;> omega
        have hl0 : c.left = 0 := by
          have h5 := h.k.tm h9
          rcases (by omega : 0 < c.left ∨ c.left = 0) with h6 | h6
          · rcases h5.1 h6 with h7 | h7
            · exact absurd h7 ht
            · exact absurd h7 l1
          · exact h6
        have hl0' : c'.left = 0 := by
          have h5 := kk.tm hx
          rcases (by omega : 0 < c'.left ∨ c'.left = 0) with h6 | h6
          · rcases h5.1 h6 with h7 | h7
            · omega
            · exact absurd h7 hs1
          · exact h6
        have hce : c.state = 4 ∧ c.eof = false ∨ c.state = 6 ∧ c.eof = true := by
          unfold ST at hstc
          rw [hca] at hstc
          simp at hstc
          rcases hstc with h5 | h5 | h5
          · exact .inl ⟨h5.1, h5.2.2⟩
          · exact .inr ⟨h5.1, h5.2.2⟩
          · exact absurd h5.1 h9
        rcases hce with ⟨h5, h6⟩ | ⟨h5, h6⟩
        · have hlc : lin c = 5 := by unfold lin; rw [if_neg (by rw [h5]; decide)]
          obtain ⟨g1, g2⟩ := r.a6 hf (by show d.eof = false; rw [p.ef]; exact h6)
          have hHr : y.H = rcv got c := by rw [hf, hrc, p.rc]
          have hrG := (h.k.toK0.rcv_le.2.2.1 h6).2
          have hg2 : gun give.length (rcv got' c') c'.eof + 1 ≤ gun give.length (rcv got c) c.eof := by
            unfold gun
            rw [h6]
            cases hce : c'.eof
            · have hne : y.H ≠ give.length := fun h7 => by rw [g2 h7] at hce; cases hce
              simp
              omega
            · simp
          unfold mu
          rw [hlc, hu, hu', hl0, hl0']
          omega
        · rcases p.s6 h5 with h7 | ⟨h7, h8⟩
          · exact absurd h7 hd9
          · obtain ⟨g1, g2⟩ := r.a8 hf h7
            have g3 : c'.lingers = c.lingers - 1 := by rw [g2]; exact h8
            have hlc := h.k.lg h5
            unfold mu lin
            rw [hu, hu', hl0, hl0', if_pos h5, if_pos g1, g3]
            omega
    omega
end
end Go.Proofs.Ytpmlojgngcllfaa
