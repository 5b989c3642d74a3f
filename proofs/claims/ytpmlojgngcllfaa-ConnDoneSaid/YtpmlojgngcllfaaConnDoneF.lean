/- ConnDone: a segment of the other end, whole. No walk in sight. -/
import Derived.Test.YtpmlojgngcllfaaConnDoneE
namespace Go.Proofs.Ytpmlojgngcllfaa
open Go.RowKit Go

theorem hasF_16 : hasF 16 1 = false ∧ hasF 16 2 = false ∧ hasF 16 4 = false ∧ hasF 16 6 = false ∧ hasF 16 16 = true := ⟨by kernel_rfl, by kernel_rfl, by kernel_rfl, by kernel_rfl, by kernel_rfl⟩
theorem hasF_17 : hasF 17 1 = true ∧ hasF 17 2 = false ∧ hasF 17 4 = false ∧ hasF 17 6 = false ∧ hasF 17 16 = true := ⟨by kernel_rfl, by kernel_rfl, by kernel_rfl, by kernel_rfl, by kernel_rfl⟩
theorem put_rdy {r : RB} (ho : r.Ok) (seq : Int) (l : List UInt8) : (r.put seq l).ready.length = r.ready.length + r.putN seq l := by
  show ((r.filled seq l).ready ++ (r.filled seq l).data.take _).length = _
  obtain ⟨e1, e2, e3⟩ := RB.many_room r r.win seq l (min l.length 65536)
  have hfd := (ho.filled seq l).dl
  have : (r.filled seq l).room = r.room := e1
  have e3' : (r.filled seq l).ready = r.ready := e3
  have hN := RB.putN_le r seq l
  have hwl : r.win ≤ r.room := Nat.sub_le _ _
  rw [List.length_append, List.length_take, e3']
  omega
theorem put_grow {r : RB} (ho : r.Ok) {l : List UInt8} (hl : l.length ≤ r.win) (hlm : l.length ≤ 2048) : r.ready.length + l.length ≤ (r.put r.next l).ready.length := by
  have hwl : r.win ≤ r.room := Nat.sub_le _ _
  have hn1 := ho.n1
  have hn2 := ho.n2
  have hch := RB.many_char ho hwl (seq := r.next) (s := 0) (l := l) (by omega) (by omega) l.length (Nat.le_refl _)
  have hf : r.filled r.next l = r.many r.win r.next l l.length := by unfold RB.filled; rw [Nat.min_eq_left (by omega)]
  have hfl := (ho.filled r.next l).hl
  rw [show (r.filled r.next l).room = r.room from (RB.many_room r r.win r.next l _).1] at hfl
  have hlead : l.length ≤ r.putN r.next l := by
    refine lead_ge (by omega) (by omega) (fun j hj => ?_)
    rw [hf, (hch j).1, decide_eq_true (by omega), Bool.or_true]
  rw [put_rdy ho]
  omega
theorem put_rm (r : RB) (seq : Int) (l : List UInt8) : (r.put seq l).room = r.room := (RB.many_room r r.win seq l (min l.length 65536)).1

section
variable {iss irs : Int} {give take : List UInt8} {W U : Nat} {F : Bool} {got : List UInt8} {q : Int} {u v t : Nat} {c : CN} {H : Nat}

theorem K0.rcv_le (h : K0 iss irs give take W U F got q u v t c) : rcv got c ≤ give.length + 1 ∧ (c.eof = true → rcv got c = give.length + 1) ∧ (c.eof = false → rcv got c = got.length + c.rb.ready.length ∧ rcv got c ≤ give.length) ∧ give.length ≤ 3000 := by
  have h1 := h.fl.lies.cl
  have h2 := h.ef
  have h3 := h.fl.lies.sl
  unfold rcv
  cases hc : c.eof
  · simp
    omega
  · have := h2 hc
    simp
    omega
/-- What its data and its Fin do. -/
theorem K.takes (h : K iss irs give take W U F got q u v t c) (hst : ST c) (h1 : c.state ≠ 1) (hr : c.rb.ready = []) (hH : H ≤ rcv got c) :
    K iss irs give take W U F got q u v t (c.takes (sayS iss irs give U F H)) ∧ ST (c.takes (sayS iss irs give U F H)) ∧ (c.takes (sayS iss irs give U F H)).state ≠ 1 ∧ (c.takes (sayS iss irs give U F H)).closed = c.closed ∧ (c.takes (sayS iss irs give U F H)).acked = c.acked ∧
      (c.takes (sayS iss irs give U F H)).out = c.out ∧ (c.takes (sayS iss irs give U F H)).tries = c.tries ∧ (c.takes (sayS iss irs give U F H)).left = c.left ∧ rcv got c ≤ rcv got (c.takes (sayS iss irs give U F H)) ∧
      ((c.takes (sayS iss irs give U F H)).state = 9 ↔ c.state = 9) ∧ ((c.takes (sayS iss irs give U F H)).state = 9 → (c.takes (sayS iss irs give U F H)).rb.ready = []) ∧
      ((c.takes (sayS iss irs give U F H)).state = 6 → (c.takes (sayS iss irs give U F H)).lingers = 4 ∨ (c.state = 6 ∧ (c.takes (sayS iss irs give U F H)).lingers = c.lingers ∧ (c.takes (sayS iss irs give U F H)).rb.ready = [])) ∧
      (H = rcv got c → c.eof = false → min (H + 100) give.length ≤ rcv got (c.takes (sayS iss irs give U F H)) ∧ (H = give.length → (c.takes (sayS iss irs give U F H)).eof = true)) ∧ (c.eof = true → (c.takes (sayS iss irs give U F H)).eof = true) ∧ (H ≠ give.length → (c.takes (sayS iss irs give U F H)).state = c.state ∧ (c.takes (sayS iss irs give U F H)).lingers = c.lingers) := by
  obtain ⟨r1, r2, r3, r4⟩ := h.toK0.rcv_le
  obtain ⟨s, hs⟩ : ∃ s, s = sayS iss irs give U F H := ⟨_, rfl⟩
  have hsq : s.seq = (irs + 1 + (H : Int)) % 4294967296 := by rw [hs]; rfl
  have hsd : s.data = (give.drop H).take 100 := by rw [hs]; rfl
  have hsf : s.flags = if H = give.length then 17 else 16 := by rw [hs]; rfl
  rw [← hs]
  have ho := h.o
  have hfl := h.fl
  have hnx := hfl.lies.nx
  have hdl : s.data.length = min 100 (give.length - H) := by rw [hsd, List.length_take, List.length_drop]
  -- the data
  obtain ⟨d, hd, k1, s1, d1, d2, d3, d4, d5, d6, d7, d8, d9, d10, d11⟩ : ∃ d : CN, c.takes1 s = d ∧ K iss irs give take W U F got q u v t d ∧ ST d ∧ d.state = c.state ∧ d.closed = c.closed ∧ d.acked = c.acked ∧ d.out = c.out ∧ d.tries = c.tries ∧ d.left = c.left ∧ d.lingers = c.lingers ∧ d.eof = c.eof ∧
      rcv got c ≤ rcv got d ∧ (H = rcv got c → c.eof = false → min (H + 100) give.length ≤ rcv got d) ∧ (c.eof = true → d.rb.ready = []) := by
    unfold CN.takes1
    by_cases hst2 : c.state = 2 ∨ c.state = 3 ∨ c.state = 4
    · rw [if_pos hst2]
      have hef : c.eof = false := by
        unfold ST at hst
        rcases hst2 with h2 | h2 | h2 <;> (rw [h2] at hst; simp at hst; simp [hst])
      obtain ⟨r5, r6⟩ := r3 hef
      have hput := hfl.put (at_ := H) (seq := s.seq) (by rw [hsq]; omega) (l := s.data) (by rw [hdl]; omega) (fun i hi => by
        rw [hdl] at hi
        rw [hsd, List.getD_eq_getElem?_getD, List.getElem?_take, if_pos (by omega), List.getElem?_drop, ← List.getD_eq_getElem?_getD])
      have hrl := put_rdy hfl.lies.ok s.seq s.data
      have hmono : rcv got c ≤ rcv got { c with rb := c.rb.put s.seq s.data } := by
        unfold rcv
        show _ ≤ got.length + (c.rb.put s.seq s.data).ready.length + _
        rw [hrl]
        show got.length + c.rb.ready.length + (if c.eof = true then 1 else 0) ≤ got.length + (c.rb.ready.length + c.rb.putN s.seq s.data) + (if c.eof = true then 1 else 0)
        omega
      refine ⟨_, rfl, ⟨{ h.toK0 with
          one := fun hx => absurd hx h1
          fl := hput
          rm := by show (c.rb.put s.seq s.data).room = 2048; rw [put_rm]; exact h.rm
          ef := fun hx => by rw [hef] at hx; cases hx
          out := fun x hx => (h.out x hx).more (fun y => y) (Nat.le_refl _) (Nat.le_refl _) (Nat.le_refl _) hmono }, h.tm⟩, hst, rfl, rfl, rfl, rfl, rfl, rfl, rfl, rfl, hmono, fun hx _ => ?_, fun hx => by rw [hef] at hx; cases hx⟩
      have hsn : s.seq = c.rb.next := by rw [hsq, hx, r5, hnx]; omega
      have hwin : c.rb.win = 2048 := by unfold RB.win; rw [hr, h.rm]; rfl
      have hg := put_grow hfl.lies.ok (l := s.data) (by rw [hdl, hwin]; omega) (by rw [hdl]; omega)
      unfold rcv
      show _ ≤ got.length + (c.rb.put s.seq s.data).ready.length + _
      rw [hsn]
      rw [hdl] at hg
      omega
    · rw [if_neg hst2]
      refine ⟨c, rfl, h, hst, rfl, rfl, rfl, rfl, rfl, rfl, rfl, rfl, Nat.le_refl _, fun hx hy => ?_, fun _ => hr⟩
      exfalso
      unfold ST at hst
      rw [hy] at hst
      simp at hst
      omega
  obtain ⟨q1, q2, q3, q4⟩ := k1.toK0.rcv_le
  unfold CN.takes
  rw [hd]
  by_cases hG : H = give.length
  · have hf1 : hasF s.flags 1 = true := by rw [hsf, if_pos hG]; exact hasF_17.1
    rw [if_pos hf1]
    have hdata : s.data.length = 0 := by rw [hdl]; omega
    -- the Fin
    obtain ⟨e, he, k2, s2, e1, e2, e3, e4, e5, e6, e7, e8, e9, e10⟩ : ∃ e : CN, d.takes2 s = e ∧ K iss irs give take W U F got q u v t e ∧ ST e ∧ (e.state ≠ 1) ∧ e.closed = c.closed ∧ e.acked = c.acked ∧ e.out = c.out ∧ e.tries = c.tries ∧ e.left = c.left ∧ rcv got d ≤ rcv got e ∧
        (e.state = 9 ↔ c.state = 9) ∧ (e.state = 9 ∨ c.state = 6 → e.rb.ready = []) ∧ ((d.eof = true ∨ rcv got d = give.length) → e.eof = true) := by
      unfold CN.takes2
      by_cases hcnd : d.eof = false ∧ (s.seq + s.data.length) % M32 = d.rb.next
      · rw [if_pos hcnd]
        obtain ⟨hef, hnn⟩ := hcnd
        obtain ⟨q5, q6⟩ := q3 hef
        have hnd := k1.fl.lies.nx
        have hfull : got.length + d.rb.ready.length = give.length := by
          rw [hnd, hdata, hsq, hG] at hnn
          unfold M32 at hnn
          omega
        have hcef : c.eof = false := by rw [← d8]; exact hef
        have hmono : rcv got d ≤ rcv got { d with eof := true } := by unfold rcv; rw [hef]; simp
        have kb : K iss irs give take W U F got q u v t { d with eof := true } :=
          ⟨{ k1.toK0 with
              one := fun hx => absurd (d1.symm.trans hx) h1
              ef := fun _ => hfull
              out := fun x hx => (k1.out x hx).more (fun y => y) (Nat.le_refl _) (Nat.le_refl _) (Nat.le_refl _) hmono }, k1.tm⟩
        have hs' := s1
        unfold ST at hs'
        rw [hef] at hs'
        simp at hs'
        have h1' : d.state ≠ 1 := by rw [d1]; exact h1
        rcases hs' with hs' | hs' | hs' | hs'
        · exact absurd hs'.1 h1'
        · have ee : ((CN.turn { d with eof := true } 4 6).turn 3 5).turn 2 7 = { d with eof := true, state := 7 } := by unfold CN.turn; simp [hs'.1]
          rw [ee]
          have km := kb.move (X := 7) (L := d.lingers) h1' (by show d.state ≠ 9; rw [hs'.1]; decide) (by decide) (fun hx => absurd hx (by decide))
          exact ⟨_, rfl, km, by unfold ST; simp [hs'], by simp, d2, d3, d4, d5, d6, hmono, by rw [← d1, hs'.1]; show (7 : Int) = 9 ↔ (2 : Int) = 9; decide, fun hx => by
            rcases hx with hx | hx
            · exact absurd (show (7 : Int) = 9 from hx) (by decide)
            · rw [← d1, hs'.1] at hx; exact absurd hx (by decide), fun _ => rfl⟩
        · have ee : ((CN.turn { d with eof := true } 4 6).turn 3 5).turn 2 7 = { d with eof := true, state := 5 } := by unfold CN.turn; simp [hs'.1]
          rw [ee]
          have km := kb.move (X := 5) (L := d.lingers) h1' (by show d.state ≠ 9; rw [hs'.1]; decide) (by decide) (fun hx => absurd hx (by decide))
          exact ⟨_, rfl, km, by unfold ST; simp [hs'], by simp, d2, d3, d4, d5, d6, hmono, by rw [← d1, hs'.1]; show (5 : Int) = 9 ↔ (3 : Int) = 9; decide, fun hx => by
            rcases hx with hx | hx
            · exact absurd (show (5 : Int) = 9 from hx) (by decide)
            · rw [← d1, hs'.1] at hx; exact absurd hx (by decide), fun _ => rfl⟩
        · have ee : ((CN.turn { d with eof := true } 4 6).turn 3 5).turn 2 7 = { d with eof := true, state := 6, lingers := 4 } := by unfold CN.turn; simp [hs'.1, k1.o]
          rw [ee]
          have km := kb.move (X := 6) (L := 4) h1' (by show d.state ≠ 9; rw [hs'.1]; decide) (by decide) (fun _ => by decide)
          exact ⟨_, rfl, km, by unfold ST; simp [hs'], by simp, d2, d3, d4, d5, d6, hmono, by rw [← d1, hs'.1]; show (6 : Int) = 9 ↔ (4 : Int) = 9; decide, fun hx => by
            rcases hx with hx | hx
            · exact absurd (show (6 : Int) = 9 from hx) (by decide)
            · rw [← d1, hs'.1] at hx; exact absurd hx (by decide), fun _ => rfl⟩
      · rw [if_neg hcnd]
        refine ⟨d, rfl, k1, s1, by rw [d1]; exact h1, d2, d3, d4, d5, d6, Nat.le_refl _, by rw [d1], fun hx => d11 ?_, fun hx => ?_⟩
        · unfold ST at hst
          rcases hx with hx | hx
          · rw [d1] at hx; rw [hx] at hst; simp at hst; exact hst.2.1
          · rw [hx] at hst; simp at hst; exact hst.2.1
        · rcases hx with hx | hx
          · exact hx
          · exfalso
            have hef : d.eof = false := by
              cases hde : d.eof
              · rfl
              · have := q2 hde; omega
            obtain ⟨q5, q6⟩ := q3 hef
            refine hcnd ⟨hef, ?_⟩
            rw [k1.fl.lies.nx, hdata, hsq, hG]
            unfold M32
            omega
    rw [he]
    have hl4 : e.takes3 = if e.state = 6 then { e with lingers := 4 } else e := by unfold CN.takes3; rw [k2.o]
    rw [hl4]
    have hlast : H = rcv got c → c.eof = false → min (H + 100) give.length ≤ rcv got e ∧ (H = give.length → e.eof = true) := fun hx hy => by
      have h3 := d10 hx hy
      refine ⟨by omega, fun _ => e10 ?_⟩
      cases hde : d.eof
      · right
        have := (q3 hde).2
        omega
      · exact .inl rfl
    by_cases h6 : e.state = 6
    · rw [if_pos h6]
      exact ⟨⟨{ k2.toK0 with lg := fun _ => by show 1 ≤ (4 : Int) ∧ (4 : Int) ≤ 4; decide }, k2.tm⟩, s2, e1, e2, e3, e4, e5, e6, Nat.le_trans d9 e7, e8, fun hx => e9 (.inl hx), fun _ => .inl rfl, hlast, fun hx => e10 (.inl (by rw [d8]; exact hx)), fun hx => absurd hG hx⟩
    · rw [if_neg h6]
      exact ⟨k2, s2, e1, e2, e3, e4, e5, e6, Nat.le_trans d9 e7, e8, fun hx => e9 (.inl hx), fun hx => absurd hx h6, hlast, fun hx => e10 (.inl (by rw [d8]; exact hx)), fun hx => absurd hG hx⟩
  · have hf1 : hasF s.flags 1 = false := by rw [hsf, if_neg hG]; exact hasF_16.1
    rw [if_neg (by rw [hf1]; decide)]
    refine ⟨k1, s1, by rw [d1]; exact h1, d2, d3, d4, d5, d6, d9, by rw [d1], fun hx => d11 ?_, fun hx => .inr ⟨by rw [← d1]; exact hx, d7, d11 ?_⟩, fun hx hy => ⟨d10 hx hy, fun hz => absurd hz hG⟩, fun hx => by rw [d8]; exact hx, fun _ => ⟨d1, d7⟩⟩
    · unfold ST at hst; rw [d1] at hx; rw [hx] at hst; simp at hst; exact hst.2.1
    · unfold ST at hst; rw [d1] at hx; rw [hx] at hst; simp at hst; exact hst.2.1
end
end Go.Proofs.Ytpmlojgngcllfaa
