/- ConnDone: where the rounds begin and end; what is heard, one by one. No walk in sight. -/
import Derived.Test.YtpmlojgngcllfaaConnDoneJ
import Derived.Test.YtpmlojgngcllfaaConnFree
import Derived.Test.YtpmlojgngcllfaaConnNew
namespace Go.Proofs.Ytpmlojgngcllfaa
open Go.RowKit Go

def x0 (T : Nat) : EX := ⟨0, 0, 0, false, List.replicate (T + 1) false, 0⟩
def sIn (irs : Int) : Sg := ⟨9, 10, irs, 0, 2, 1000, 100, []⟩
def oIn : Tp := ⟨3, 2, 8, 100, 4⟩
theorem newok_in (irs : Int) : NewOk (sIn irs) oIn := ⟨by decide, by decide, by decide, by decide, ⟨by decide, by decide, by decide, by decide⟩, by show bits .and .i64 2 23 = 2; decide⟩

section
variable {iss irs : Int} {give take : List UInt8} {i : Nat} {x : EX} {c : CN} {got : List UInt8}

theorem fre_start (iss irs : Int) : (CN.start (sIn irs) iss oIn).Fre 0 0 := by
  have hok := CN.fresh_ok (m := 100) (newok_in irs) iss (by decide) (by decide)
  exact ⟨trivial, Int.le_refl 0, fun _ => rfl, fun _ => (by decide : (0 : Int) ≤ 100), fun (e : (1 : Int) = 6) => absurd e (by decide), (by decide : (1 : Int) ≤ 4), (by decide : (0 : Int) ≤ 100), Int.le_refl 0, Int.le_refl 0, hok.sb, hok.rb⟩
theorem out_start (iss irs : Int) : (CN.start (sIn irs) iss oIn).out.length = 1 := rfl
theorem getD_repF (n k : Nat) : (List.replicate n false).getD k false = false := by
  rw [List.getD_eq_getElem?_getD]
  cases h : (List.replicate n false)[k]?
  · rfl
  · have := List.mem_of_getElem? h
    rw [List.mem_replicate] at this
    exact this.2
theorem RI.start (i0 : 0 ≤ iss) (i1 : iss < 4294967296) (hG : give.length ≤ 3000) (hT : take.length ≤ 3000) : RI iss irs give take 0 (x0 take.length) (CN.start (sIn irs) iss oIn) [] := by
  have hk0 : K0 iss irs give take 0 0 false [] 0 0 0 0 (CN.start (sIn irs) iss oIn) := by
    refine ⟨⟨i0, i1⟩, rfl, hT, Nat.zero_le _, ?_, by decide, rfl, ?_, ?_, Nat.le_refl _, Nat.le_refl _, Nat.zero_le _, fun h => ?_, ⟨fun h => ?_, fun h => ?_⟩, ⟨.inl rfl, .inl rfl⟩, fun _ => ⟨rfl, rfl, rfl, rfl, rfl, rfl, rfl, rfl⟩, fun h => absurd rfl h, rfl, fun h => absurd rfl h, by decide, (show (0 : Int) ≤ 3 ∧ (3 : Int) ≤ 8 from ⟨by decide, by decide⟩), ⟨Clk.start_ok (by decide) (by decide) (by decide) (by decide), rfl⟩, Nat.le_refl _, Nat.le_refl _, fun h => ?_, Nat.le_refl _, rfl, ?_, rfl, fun h => ?_, ?_, rfl, ⟨Int.le_refl 0, Int.le_refl 0⟩, fun (e : (1 : Int) = 6) => absurd e (by decide), Int.le_refl 0⟩
    · show (⟨2048, (iss + 1) % M32, []⟩ : SB) = ⟨2048, (iss + 1 + ((0 : Nat) : Int)) % 4294967296, _⟩
      rw [show iss + 1 + ((0 : Nat) : Int) = iss + 1 from by omega]
      rfl
    · show (iss + 1) % M32 = (iss + 1 + ((0 : Nat) : Int)) % 4294967296
      unfold M32
      omega
    · show (iss + 1) % M32 = (iss + 1 + ((0 : Nat) : Int)) % 4294967296
      unfold M32
      omega
    · cases h
    · cases h
    · exact absurd h (by decide)
    · cases h
    · exact Flow.start (by decide) (by decide) (by omega) (by omega) hG
    · cases h
    · intro s hs
      have hs2 : s ∈ [(⟨10, 9, iss, (CN.start (sIn irs) iss oIn).want, 18, (CN.start (sIn irs) iss oIn).rb.win, 536, []⟩ : Sg)] := hs
      rw [List.mem_singleton] at hs2
      subst hs2
      refine ⟨⟨0, Nat.zero_le _, ?_⟩, .inr (.inl ⟨rfl, rfl, rfl⟩)⟩
      show (irs + 1) % M32 = (irs + 1 + ((0 : Nat) : Int)) % 4294967296
      unfold M32
      omega
  refine ⟨0, 0, 0, 0, ⟨hk0, fun _ => ⟨fun _ => .inr rfl, fun _ => (by decide : (0 : Int) < 3)⟩⟩, fun _ => by omega, ?_, .inl ⟨rfl, rfl, rfl⟩, Nat.zero_le _, fun (e : (1 : Int) = 9) => absurd e (by decide), fun (e : (1 : Int) = 6) => absurd e (by decide), .inr ⟨rfl, rfl⟩, fun h => absurd h (by decide), fun h => absurd h (by decide)⟩
  exact ⟨List.length_replicate, fun k hk => absurd hk (Nat.not_lt_zero _), fun k hk => by rw [show (x0 take.length).th = List.replicate (take.length + 1) false from rfl, getD_repF] at hk; exact absurd hk (by decide), fun k k' _ _ _ => by rw [show (x0 take.length).th = List.replicate (take.length + 1) false from rfl, getD_repF, getD_repF], .inl rfl, Nat.le_refl _, Nat.zero_le _, fun h => (by cases h), Nat.le_refl _⟩
theorem RI.gone (h : RI iss irs give take i x c got) (hi : 700 < i) : c.state = 9 := by
  obtain ⟨q, u, v, t, h⟩ := h
  rcases Classical.em (c.state = 9) with h9 | h9
  · exact h9
  · have := (h.lv (by omega) h9).2.2.2
    omega
theorem RI.end (h : RI iss irs give take i x c got) (h9 : c.state = 9) : c.reset = false ∧ got = give ∧ x.U = take.length ∧ x.F = true ∧ c.over = true := by
  obtain ⟨q, u, v, t, h⟩ := h
  have hst := h.st
  have hc : c.closed = true ∧ c.eof = true ∧ c.acked = true := by unfold ST at hst; rw [h9] at hst; simpa using hst
  have hr := h.r9 h9
  have hu := h.k.ak.1 hc.2.2
  have hW := h.k.cl hc.1
  have hux := h.k.ux
  have huw := h.k.uw
  have hgl := h.k.ef hc.2.1
  have hge := h.k.fl.got_eq
  rw [hr] at hgl
  simp at hgl
  rw [hgl, List.take_length] at hge
  have hF : x.F = true := by
    cases hF : x.F
    · rw [hF] at hux
      simp at hux
      omega
    · rfl
  rw [hF] at hux
  simp at hux
  refine ⟨h.k.rs, hge.symm, by omega, hF, ?_⟩
  unfold CN.over
  rw [hc.2.1, hr]
  rfl
theorem RI.bd (h : RI iss irs give take i x c got) : x.W ≤ take.length ∧ take.length ≤ 3000 ∧ x.H ≤ 3001 ∧ give.length ≤ 3000 ∧ (c.state = 9 → x.W + c.more (take.drop x.W) ≤ take.length) := by
  obtain ⟨q, u, v, t, h⟩ := h
  have h1 := h.k.toK0.rcv_le
  have h2 := h.hh
  refine ⟨h.k.wl, h.k.tl, by omega, h1.2.2.2, fun h9 => ?_⟩
  have hw : c.more (take.drop x.W) = 0 := by
    unfold CN.more CN.wrote CN.writes
    have : c.tick = c := by unfold CN.tick; rw [if_pos h9]
    rw [this, h9]
    simp
  have := h.k.wl
  omega

/-- What is still to be heard. -/
structure Ear (iss irs : Int) (take : List UInt8) (cl : Bool) (t n : Nat) (x : EX) (l : List Sg) : Prop where
  xi : XI take t x
  hon : ∀ s ∈ l, Hon iss irs take cl x.W x.U t n s
  hh : x.H ≤ n
  nn : n ≤ 3001
  cl : cl = true → x.W = take.length
  tl : take.length ≤ 3000
  mo : x.most = 1000 ∨ (x.most = 0 ∧ t = 0)
theorem Ear.step {cl : Bool} {t n : Nat} {s : Sg} {l : List Sg} (h : Ear iss irs take cl t n x (s :: l)) : Ear iss irs take cl t n (x.hear iss irs s) l := by
  obtain ⟨a1, a2, a3, a4, a5⟩ := h.xi.hear (h.hon s (List.mem_cons_self ..)) h.cl h.tl h.nn h.hh
  exact ⟨a1, fun s' hs' => (h.hon s' (List.mem_cons_of_mem _ hs')).more (fun hx => hx) (by rw [a2.W]; exact Nat.le_refl _) a2.U (Nat.le_refl _) (Nat.le_refl _), a3, h.nn, fun hx => a2.W.trans (h.cl hx), h.tl, by rw [a2.most]; exact h.mo⟩
theorem Ear.skip {cl : Bool} {t n : Nat} {s : Sg} {l : List Sg} (h : Ear iss irs take cl t n x (s :: l)) : Ear iss irs take cl t n x l :=
  ⟨h.xi, fun s' hs' => h.hon s' (List.mem_cons_of_mem _ hs'), h.hh, h.nn, h.cl, h.tl, h.mo⟩
/-- What one round says of what it reaches. -/
structure Mids (iss irs : Int) (give take : List UInt8) (x : EX) (c : CN) (got : List UInt8) (shut : Bool) : Prop where
  W : x.W + c.more (take.drop x.W) ≤ take.length
  g : give.take (got ++ c.told_ (take.drop x.W)).length = got ++ c.told_ (take.drop x.W)
  gl : (got ++ c.told_ (take.drop x.W)).length ≤ give.length
  ear : ∃ cl t n, Ear iss irs take cl t n (x.wr (c.more (take.drop x.W))) (c.pass (take.drop x.W) shut).out
theorem RI.mid (h : RI iss irs give take i x c got) (h9 : c.state ≠ 9) {shut : Bool} (hsh : shut = true → x.W + c.more (take.drop x.W) = take.length) : Mids iss irs give take x c got shut := by
  obtain ⟨q, u, v, t, h⟩ := h
  obtain ⟨v', t', p⟩ := h.k.pass h.st (by have := h.kq h9; omega) h9 hsh
  have hn := p.k.toK0.rcv_le.1
  have hg := p.k.toK0.rcv_le.2.2.2
  refine ⟨p.W.2, p.k.fl.got_eq, ?_, _, t', _, (h.xi.write (Nat.le_add_right _ _) p.W.2).later p.t, fun s hs => p.k.out s hs, by rw [p.rc]; exact h.hh, by omega, fun hc => p.k.cl hc, p.k.tl, ?_⟩
  · have := p.k.fl.got_le
    omega
  · rcases h.mo with h1 | ⟨h1, h2⟩
    · exact .inl h1
    · exact .inr ⟨h1, (p.k.one (p.s1.2 h2)).2.2.1⟩

theorem sayS_ok (U : Nat) (F : Bool) (H : Nat) : (sayS iss irs give U F H).Ok := by
  refine ⟨?_, ?_, ?_, ?_, (by decide : (0 : Int) ≤ 1000), (by decide : (1000 : Int) ≤ 65535), ?_⟩
  · show 0 ≤ (irs + 1 + (H : Int)) % 4294967296
    omega
  · show (irs + 1 + (H : Int)) % 4294967296 < 4294967296
    omega
  · show 0 ≤ (iss + 1 + ((U + (if F then 1 else 0) : Nat) : Int)) % 4294967296
    omega
  · show (iss + 1 + ((U + (if F then 1 else 0) : Nat) : Int)) % 4294967296 < 4294967296
    omega
  · show ((give.drop H).take 100).length ≤ 1000000
    rw [List.length_take]
    omega
theorem sayS_len (U : Nat) (F : Bool) (H : Nat) : (sayS iss irs give U F H).data.length ≤ 100 := by
  show ((give.drop H).take 100).length ≤ 100
  rw [List.length_take]
  omega
/-- What is known of a connection whatever comes. -/
structure Lim (i : Nat) (c : CN) : Prop where
  fr : c.Fre ((100 * i : Nat) : Int) (i : Nat)
  ol : c.out.length ≤ 3000
theorem Lim.step {rest : List UInt8} {m0 : Bool} {U : Nat} {F : Bool} {H : Nat} {shut : Bool} (h : Lim i c) (hi : i < 800) :
    Lim (i + 1) (if m0 then (c.pass rest shut).drain.inn (sayS iss irs give U F H) else (c.pass rest shut).drain) := by
  have h1 : (c.pass rest shut).Fre ((100 * i : Nat) : Int) ((i : Int) + 1) := by
    unfold CN.pass
    split
    · exact ((h.fr.tick.write rest).read 3000).close
    · exact (h.fr.tick.write rest).read 3000
  have h2 := h1.drain
  have hl := sayS_len (iss := iss) (irs := irs) (give := give) U F H
  cases m0
  · exact ⟨h2.more (by omega) (by omega), Nat.zero_le _⟩
  · exact ⟨(h2.inn (sayS_ok U F H) (by omega)).more (by omega) (by omega), by
      have h3 := h2.inn_out (s := sayS iss irs give U F H) (sayS_ok U F H) (by omega)
      have h4 : (c.pass rest shut).drain.out.length = 0 := rfl
      rw [h4] at h3
      show ((c.pass rest shut).drain.inn (sayS iss irs give U F H)).out.length ≤ 3000
      omega⟩
theorem Lim.calm (h : Lim i c) (hi : i ≤ 800) : c.Calm := h.fr.calm (by omega)
theorem Lim.outs (h : Lim i c) (rest : List UInt8) : c.tick.out.length ≤ 3001 ∧ (c.tick.write rest).out.length ≤ 5050 ∧ ((c.tick.write rest).read 3000).out.length ≤ 5051 ∧ (((c.tick.write rest).read 3000).close).out.length ≤ 7100 := by
  have h1 := CN.tick_out c
  have h2 := h.fr.tick.write_out rest
  have h3 := CN.read_out (c.tick.write rest) 3000
  have h4 := ((h.fr.tick.write rest).read 3000).close_out
  have h5 := h.ol
  omega
theorem Lim.outs2 (h : Lim i c) (rest : List UInt8) (shut : Bool) : (c.pass rest shut).out.length ≤ 7100 := by
  have := h.outs rest
  unfold CN.pass
  split <;> omega
theorem Lim.start (iss irs : Int) : Lim 0 (CN.start (sIn irs) iss oIn) := ⟨fre_start iss irs, by rw [out_start]; decide⟩
end
end Go.Proofs.Ytpmlojgngcllfaa
