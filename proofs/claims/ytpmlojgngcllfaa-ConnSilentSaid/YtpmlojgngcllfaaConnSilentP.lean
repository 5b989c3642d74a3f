/- The timer alone, in plain words. No walk in sight. -/
import Derived.Test.YtpmlojgngcllfaaConnResetsP
namespace Go.Proofs.Ytpmlojgngcllfaa
open Go.RowKit Go

/-- What kind of state it waits in: 1, no answer to its hello; 2, something sent, nothing answered; 3, no room, so nothing sent. -/
def Kind (txt : List UInt8) (K : Nat) (N sent : Int) (c : CN) : Prop :=
  c.o.tries = N ∧
  ((K = 1 ∧ c.state = 1 ∧ c.tries = sent ∧ sent ≤ N) ∨
   (K = 2 ∧ c.state = 2 ∧ c.tries = sent ∧ sent ≤ N ∧ c.sb = ⟨2048, 501, txt⟩ ∧ c.una = 501 ∧ c.top = 501 + txt.length ∧ c.mss = 100 ∧ c.window = 1000) ∨
   (K = 3 ∧ c.state = 2 ∧ c.una = c.top ∧ c.reset = false))
def ClkBd (k : Clk) : Prop := 1 ≤ k.least ∧ k.least ≤ k.wait ∧ k.wait ≤ k.most ∧ k.most ≤ 100
theorem ClkBd.back {k : Clk} (h : ClkBd k) : ClkBd k.back ∧ k.wait ≤ k.back.wait := by
  obtain ⟨h1, h2, h3, h4⟩ := h
  unfold ClkBd Clk.back Clk.set clip
  dsimp only
  omega
structure Sil (txt : List UInt8) (K : Nat) (N t last gap sent : Int) (c : CN) : Prop where
  k : Kind txt K N sent c
  ck : ClkBd c.clk
  tm : t - last + c.left = c.clk.wait
  lf : 1 ≤ c.left
  g0 : 0 ≤ gap
  g1 : gap ≤ c.clk.wait
  l0 : 0 ≤ last
  l1 : last ≤ 100 * sent
  l2 : last ≤ t
  ot : c.out = []

section
variable {txt : List UInt8} {K : Nat} {N t last gap sent : Int} {c : CN}
theorem Sil.state (h : Sil txt K N t last gap sent c) : c.state = if K = 1 then 1 else 2 := by
  obtain ⟨-, ⟨rfl, h1, -⟩ | ⟨rfl, h1, -⟩ | ⟨rfl, h1, -⟩⟩ := h.k
  · exact h1
  · exact h1
  · exact h1
theorem Sil.not9 (h : Sil txt K N t last gap sent c) : c.state ≠ 9 := by
  have := h.state
  split at this <;> omega
theorem Sil.not6 (h : Sil txt K N t last gap sent c) : c.state ≠ 6 := by
  have := h.state
  split at this <;> omega
theorem Sil.tick1 (h : Sil txt K N t last gap sent c) : Sil txt K N t last gap sent c.tick1 := by
  unfold CN.tick1
  split
  · exact ⟨h.k, h.ck, h.tm, h.lf, h.g0, h.g1, h.l0, h.l1, h.l2, h.ot⟩
  · exact h
theorem Sil.tick_eq (h : Sil txt K N t last gap sent c) : c.tick = c.tick1.tick2 := by
  have h6 := h.tick1.not6
  unfold CN.tick CN.tick3
  rw [if_neg h.not9, if_neg h6]
theorem Sil.tick2 (h : Sil txt K N t last gap sent c) (hl : c.left ≠ 1) : Sil txt K N (t + 1) last gap sent c.tick2 := by
  have hlf := h.lf
  have htm := h.tm
  have hl2 := h.l2
  unfold CN.tick2
  rw [if_pos (by omega), if_neg hl]
  exact ⟨h.k, h.ck, show t + 1 - last + (c.left - 1) = c.clk.wait by omega, show 1 ≤ c.left - 1 by omega, h.g0, h.g1, h.l0, h.l1, by omega, h.ot⟩
theorem CN.tick1_left (c : CN) : c.tick1.left = c.left := by unfold CN.tick1; split <;> rfl
/-- No event. -/
theorem Sil.waits (h : Sil txt K N t last gap sent c) (hl : c.left ≠ 1) : Sil txt K N (t + 1) last gap sent c.tick := by
  rw [h.tick_eq]
  exact h.tick1.tick2 (by rw [CN.tick1_left]; exact hl)

/-- What an event leaves. -/
def Goes (txt : List UInt8) (K : Nat) (N t last sent : Int) (d : CN) : Prop :=
  ∃ s, d.out = [s] ∧ hasF s.flags 4 = false ∧ Sil txt K N (t + 1) (t + 1) (t + 1 - last) (sent + 1) d.drain
def Ends (K : Nat) (N sent : Int) (d : CN) : Prop :=
  K ≠ 3 ∧ d.state = 9 ∧ d.reset = true ∧ sent = N ∧ (d.out = [] ∨ ∃ s, d.out = [s] ∧ hasF s.flags 4 = true)

theorem Sil.longer {d : CN} {s : Sg} (h : Sil txt K N t last gap sent c) (hl : c.left = 1) (hk : Kind txt K N (sent + 1) d) (hc : d.clk = c.clk) (ho : d.out = [s]) (hs : hasF s.flags 4 = false) :
    Goes txt K N t last sent d.longer := by
  obtain ⟨b1, b2⟩ := h.ck.back
  have htm := h.tm
  have hg := h.g1
  have hl0 := h.l0
  have hl1 := h.l1
  have hl2 := h.l2
  obtain ⟨q1, q2, q3, q4⟩ := h.ck
  obtain ⟨r1, r2, r3, r4⟩ := b1
  have hcb : d.longer.drain.clk = c.clk.back := by rw [← hc]; rfl
  have hlf : d.longer.drain.left = c.clk.back.wait := by rw [← hc]; rfl
  refine ⟨s, ho, hs, hk, ?_, ?_, ?_, by omega, ?_, by omega, by omega, by omega, rfl⟩
  · rw [hcb]; exact ⟨r1, r2, r3, r4⟩
  · rw [hcb, hlf]; omega
  · rw [hlf]; omega
  · rw [hcb]; omega

theorem SB.get_head {txt : List UInt8} (h : txt ≠ []) : (SB.get ⟨2048, 501, txt⟩ 501 1).isEmpty = false := by
  obtain ⟨a, l, rfl⟩ := List.exists_cons_of_ne_nil h
  rfl
theorem SB.get_all {txt : List UInt8} (hl : txt.length ≤ 100) : SB.get ⟨2048, 501, txt⟩ 501 (min (max 1000 1) 100) = txt := by
  have e : (min (max 1000 1) 100 : Int) = 100 := by decide
  have a0 : ahd 501 501 = 0 := by decide
  unfold SB.get
  dsimp only
  rw [e, a0]
  by_cases h : txt.length = 0
  · rw [if_pos (by omega)]
    exact (List.eq_nil_of_length_eq_zero h).symm
  · rw [if_neg (by omega)]
    show (txt.drop 0).take 100 = txt
    rw [List.drop_zero, List.take_of_length_le hl]

theorem has18 : hasF 18 4 = false := by decide
theorem has24 : hasF 24 4 = false := by decide
theorem has16 : hasF 16 4 = false := by decide
theorem has20 : hasF 20 4 = true := by decide
theorem Sil.again (h : Sil txt K N t last gap sent c) (hne : txt ≠ []) (htx : txt.length ≤ 100) (hl : c.left = 1) :
    Goes txt K N t last sent (CN.again { c with left := 0 }) ∨ Ends K N sent (CN.again { c with left := 0 }) := by
  obtain ⟨hN, ⟨rfl, h1, h2, h3⟩ | ⟨rfl, h1, h2, h3, h4, h5, h6, h7, h8⟩ | ⟨rfl, h1, h2, h3⟩⟩ := h.k
  · unfold CN.again
    rw [if_pos h1]
    dsimp only
    by_cases hx : c.o.tries < c.tries + 1
    · rw [if_pos hx]
      refine Or.inr ⟨by decide, rfl, Bool.or_true _, by omega, Or.inl h.ot⟩
    · rw [if_neg hx]
      refine Or.inl ?_
      have hk : Kind txt 1 N (sent + 1) ({ c with left := 0, tries := c.tries + 1, measures := false } : CN).hello := ⟨hN, Or.inl ⟨rfl, h1, show c.tries + 1 = sent + 1 by omega, by omega⟩⟩
      exact h.longer (d := CN.hello { c with left := 0, tries := c.tries + 1, measures := false }) hl hk rfl (congrArg (· ++ _) h.ot) has18
  · have ht : 0 < txt.length := List.length_pos_iff.mpr hne
    have hut : c.una ≠ c.top := by omega
    have hw0 : 0 < c.window := by omega
    unfold CN.again
    rw [if_neg (by show c.state ≠ 1; omega), if_neg hut]
    dsimp only
    simp only [if_pos hw0]
    by_cases hx : c.o.tries < c.tries + 1
    · rw [if_pos hx]
      exact Or.inr ⟨by decide, rfl, Bool.or_true _, by omega, Or.inr ⟨_, congrArg (· ++ _) h.ot, has20⟩⟩
    · rw [if_neg hx]
      refine Or.inl ?_
      obtain ⟨d, hd⟩ : ∃ d : CN, d = { c with left := 0, tries := c.tries + 1, nxt := c.una, measures := false } := ⟨_, rfl⟩
      have e1 : d.sb = ⟨2048, 501, txt⟩ := by rw [hd]; exact h4
      have e2 : d.nxt = 501 := by rw [hd]; exact h5
      have e3 : d.mss = 100 := by rw [hd]; exact h7
      have e4 : d.top = 501 + txt.length := by rw [hd]; exact h6
      have e5 : d.out = [] := by rw [hd]; exact h.ot
      have e6 : d.clk = c.clk := by rw [hd]
      have hbit : d.bit (max 1000 1) = txt := by
        unfold CN.bit
        rw [e1, e2, e3, SB.get_all htx]
      have hcan : d.can (max 1000 1) = true := by
        unfold CN.can CN.waits
        rw [e1, e2, SB.get_head hne]
        rfl
      have hp : d.piece (max 1000 1) = { d.say 501 24 0 txt with nxt := 501 + txt.length } := by
        have hm : ((501 : Int) + txt.length) % M32 = 501 + txt.length := by unfold M32; omega
        have hs : d.sent (max 1000 1) = { d.say 501 24 0 txt with nxt := 501 + txt.length } := by
          unfold CN.sent
          rw [hbit, if_neg hne, e2, hm]
        unfold CN.piece
        rw [if_pos hcan, hs]
        unfold CN.went
        have hlz : lessB (CN.top { d.say 501 24 0 txt with nxt := 501 + txt.length }) (CN.nxt { d.say 501 24 0 txt with nxt := 501 + txt.length }) = false := by
          show lessB d.top (501 + txt.length) = false
          rw [e4]
          simp [lessB]
        rw [hlz]
        rfl
      have hw : (max c.window 1) = max 1000 1 := by rw [h8]
      rw [hw, ← hd, hp]
      have hk : Kind txt 2 N (sent + 1) ({ d.say 501 24 0 txt with nxt := 501 + txt.length } : CN) := by
        subst hd
        exact ⟨hN, Or.inr (Or.inl ⟨rfl, h1, show c.tries + 1 = sent + 1 by omega, by omega, h4, h5, h6, h7, h8⟩)⟩
      refine h.longer (s := ⟨d.frm, d.dst, 501, d.want, 24, d.rb.win, 0, txt⟩) hl hk e6 ?_ has24
      show d.out ++ _ = _
      rw [e5]
      rfl
  · unfold CN.again
    rw [if_neg (by show c.state ≠ 1; omega), if_pos h2]
    refine Or.inl ?_
    refine h.longer hl ?_ rfl (congrArg (· ++ _) h.ot) has16
    exact ⟨hN, Or.inr (Or.inr ⟨rfl, h1, h2, h3⟩)⟩
/-- An event. -/
theorem Sil.event (h : Sil txt K N t last gap sent c) (hne : txt ≠ []) (htx : txt.length ≤ 100) (hl : c.left = 1) :
    (Goes txt K N t last sent c.tick ∨ Ends K N sent c.tick) ∧ gap ≤ t + 1 - last ∧ t + 1 - last ≤ 100 := by
  have htm := h.tm
  have hg := h.g1
  obtain ⟨q1, q2, q3, q4⟩ := h.ck
  refine ⟨?_, by omega, by omega⟩
  have hl1 : c.tick1.left = 1 := by rw [CN.tick1_left]; exact hl
  rw [h.tick_eq]
  unfold CN.tick2
  rw [if_pos (by omega), if_pos hl1]
  exact h.tick1.again hne htx hl1
/-- Long enough ago. -/
theorem Sil.late (h : Sil txt K N t last gap sent c) (ht : 1500 ≤ t) (hN : N ≤ 10) : K = 3 ∧ 14 ≤ sent ∧ c.state = 2 ∧ c.reset = false := by
  have htm := h.tm
  have hlf := h.lf
  have hl1 := h.l1
  obtain ⟨q1, q2, q3, q4⟩ := h.ck
  obtain ⟨-, ⟨rfl, h1, h2, h3⟩ | ⟨rfl, h1, h2, h3, -⟩ | ⟨rfl, h1, h2, h3⟩⟩ := h.k
  · omega
  · omega
  · exact ⟨rfl, by omega, h1, h3⟩
end
/- How it begins. -/
def sWin (n : Int) : Sg := ⟨0, 0, 101, 501, 16, n, 0, []⟩
theorem sWin_ok0 : (sWin 0).Ok := ⟨by decide, by decide, by decide, by decide, by decide, by decide, by decide⟩
theorem sWin_ok1 : (sWin 1000).Ok := ⟨by decide, by decide, by decide, by decide, by decide, by decide, by decide⟩
def cW (o : Tp) (n : Int) : CN :=
  { frm := 10, dst := 9, o := o, state := 2, reset := false, iss := 500, sb := ⟨2048, 501, []⟩, una := 501, nxt := 501, top := 501, closed := false, acked := false,
    rb := RB.start 2048 101, eof := false, window := n, mss := 100, seq := 101, ack := 501, clk := (Clk.start o.first o.least o.most).measure 0, left := 0, tries := 0,
    measures := false, measureTo := 501, age := 0, lingers := 0, told := 2048, out := [] }
theorem inn_win1 (o : Tp) : (CN.start sSyn 500 o).drain.inn (sWin 1000) = cW o 1000 := by kernel_rfl
theorem inn_win0 (o : Tp) : (CN.start sSyn 500 o).drain.inn (sWin 0) = cW o 0 := by kernel_rfl
theorem startN_inv {o : Tp} (h : NewOk sSyn o) : (CN.start sSyn 500 o).Inv 0 0 := by
  have hok := CN.fresh_ok (m := 100) h 500 (by decide) (by decide)
  have h1 := h.op.t0
  have h2 := h.op.l0
  have e : (CN.start sSyn 500 o).rb = RB.start 2048 101 := rfl
  exact ⟨by rw [e]; decide, by rw [e]; decide, fun _ => rfl, fun _ => (by omega : (0 : Int) ≤ o.tries), fun (e : (1 : Int) = 6) => absurd e (by decide), h2, (by omega : (0 : Int) ≤ o.tries), Int.le_refl 0, Int.le_refl 0, hok.sb, hok.rb⟩
theorem clk_bd {o : Tp} (h1 : 1 ≤ o.least) (h2 : o.least ≤ o.first) (h3 : o.first ≤ o.most) (h4 : o.most ≤ 100) :
    ClkBd (Clk.start o.first o.least o.most) ∧ ClkBd ((Clk.start o.first o.least o.most).measure 0) := by
  refine ⟨⟨h1, h2, h3, h4⟩, ?_⟩
  have e : (Clk.start o.first o.least o.most).measure 0 = ⟨o.least, o.most, 0, 0, true, clip o.least o.most 1⟩ := rfl
  rw [e]
  unfold ClkBd clip
  dsimp only
  omega
theorem sil_start {o : Tp} (txt : List UInt8) (h1 : 1 ≤ o.least) (h2 : o.least ≤ o.first) (h3 : o.first ≤ o.most) (h4 : o.most ≤ 100) (h5 : 1 ≤ o.tries) : Sil txt 1 o.tries 0 0 0 0 (CN.start sSyn 500 o).drain :=
  ⟨⟨rfl, Or.inl ⟨rfl, rfl, rfl, by omega⟩⟩, (clk_bd h1 h2 h3 h4).1, (by omega : (0 : Int) - 0 + o.first = o.first), (by omega : 1 ≤ o.first), Int.le_refl 0, (by omega : 0 ≤ o.first), Int.le_refl 0, by omega, Int.le_refl 0, rfl⟩

theorem write_all {txt : List UInt8} (hl : txt.length ≤ 100) : SB.write ⟨2048, 501, []⟩ txt = ⟨2048, 501, txt⟩ := by
  have hf : SB.fits ⟨2048, 501, []⟩ txt = txt.length := by
    unfold SB.fits
    show min txt.length (((2048 : Int) - (0 : Nat)).toNat) = _
    omega
  unfold SB.write
  rw [hf]
  show SB.mk 2048 501 ([] ++ txt.take txt.length) = _
  rw [List.take_length, List.nil_append]
theorem write_win0 {o : Tp} {txt : List UInt8} (hne : txt ≠ []) (hl : txt.length ≤ 100) : (cW o 0).write txt = CN.run { cW o 0 with sb := ⟨2048, 501, txt⟩ } := by
  have hd : ∃ d : CN, d = { cW o 0 with sb := ⟨2048, 501, txt⟩ } := ⟨_, rfl⟩
  have hw : (cW o 0).write txt = CN.flush { cW o 0 with sb := ⟨2048, 501, txt⟩ } := by
    unfold CN.write
    rw [if_pos (show (cW o 0).writes = true from rfl)]
    show CN.flush { cW o 0 with sb := SB.write ⟨2048, 501, []⟩ txt } = _
    rw [write_all hl]
  obtain ⟨d, hd⟩ := hd
  rw [hw, ← hd]
  have e1 : d.sb = ⟨2048, 501, txt⟩ := by rw [hd]
  have e2 : d.nxt = 501 := by rw [hd]; rfl
  have e3 : d.una = 501 := by rw [hd]; rfl
  have e4 : d.window = 0 := by rw [hd]; rfl
  have e5 : d.left = 0 := by rw [hd]; rfl
  have e6 : d.flows = true := by rw [hd]; rfl
  have hr : d.rest = 0 := by unfold CN.rest; rw [e2, e3, e4]; decide
  have hc : d.can d.rest = false := by unfold CN.can; rw [hr]; rfl
  have hp : ∀ k, CN.pour k d = d := by
    intro k
    cases k with
    | zero => rfl
    | succ k => unfold CN.pour; rw [hc]; rfl
  have hw : d.waits = true := by
    unfold CN.waits
    rw [e1, e2, SB.get_head hne]
    rfl
  unfold CN.flush
  rw [if_pos e6, hp]
  unfold CN.idles
  rw [if_pos ⟨by rw [e2, e3], hw, e5⟩]
theorem write_win1 {o : Tp} {txt : List UInt8} (hne : txt ≠ []) (hl : txt.length ≤ 100) :
    ∃ d : CN, d = { cW o 1000 with sb := ⟨2048, 501, txt⟩ } ∧ (cW o 1000).write txt = CN.run (CN.measure { d.say 501 24 0 txt with nxt := 501 + txt.length, top := 501 + txt.length }) := by
  have ht : 0 < txt.length := List.length_pos_iff.mpr hne
  have hw : (cW o 1000).write txt = CN.flush { cW o 1000 with sb := ⟨2048, 501, txt⟩ } := by
    unfold CN.write
    rw [if_pos (show (cW o 1000).writes = true from rfl)]
    show CN.flush { cW o 1000 with sb := SB.write ⟨2048, 501, []⟩ txt } = _
    rw [write_all hl]
  obtain ⟨d, hd⟩ : ∃ d : CN, d = { cW o 1000 with sb := ⟨2048, 501, txt⟩ } := ⟨_, rfl⟩
  refine ⟨d, hd, ?_⟩
  rw [hw, ← hd]
  have e1 : d.sb = ⟨2048, 501, txt⟩ := by rw [hd]
  have e2 : d.nxt = 501 := by rw [hd]; rfl
  have e3 : d.una = 501 := by rw [hd]; rfl
  have e4 : d.window = 1000 := by rw [hd]; rfl
  have e5 : d.left = 0 := by rw [hd]; rfl
  have e6 : d.flows = true := by rw [hd]; rfl
  have e7 : d.mss = 100 := by rw [hd]; rfl
  have e8 : d.top = 501 := by rw [hd]; rfl
  have e9 : d.measures = false := by rw [hd]; rfl
  have e10 : d.closed = false := by rw [hd]; rfl
  have hr : d.rest = 1000 := by unfold CN.rest; rw [e2, e3, e4]; decide
  have hbit : d.bit 1000 = txt := by
    unfold CN.bit
    rw [e1, e2, e7]
    exact SB.get_all hl
  have hc : d.can 1000 = true := by
    unfold CN.can CN.waits
    rw [e1, e2, SB.get_head hne]
    rfl
  have hm : ((501 : Int) + txt.length) % M32 = 501 + txt.length := by unfold M32; omega
  have hs : d.sent 1000 = { d.say 501 24 0 txt with nxt := 501 + txt.length } := by
    unfold CN.sent
    rw [hbit, if_neg hne, e2, hm]
  have hp : d.piece 1000 = CN.measure { d.say 501 24 0 txt with nxt := 501 + txt.length, top := 501 + txt.length } := by
    unfold CN.piece
    rw [if_pos hc, hs]
    unfold CN.went
    have hlz : lessB (CN.top { d.say 501 24 0 txt with nxt := 501 + txt.length }) (CN.nxt { d.say 501 24 0 txt with nxt := 501 + txt.length }) = true := by
      show lessB d.top (501 + txt.length) = true
      rw [e8]
      unfold lessB ahd
      have : (501 : Int) ≠ 501 + txt.length := by omega
      simp
      omega
    rw [if_pos hlz, if_neg (by show ¬ d.measures = true; rw [e9]; decide)]
  obtain ⟨d2, hd2⟩ : ∃ d2 : CN, d2 = CN.run (CN.measure { d.say 501 24 0 txt with nxt := 501 + txt.length, top := 501 + txt.length }) := ⟨_, rfl⟩
  have hrun : (d.piece d.rest).runs = d2 := by
    rw [hr, hp, hd2]
    unfold CN.runs
    exact if_pos e5
  have f1 : d2.sb = ⟨2048, 501, txt⟩ := by rw [hd2]; exact e1
  have f2 : d2.nxt = 501 + txt.length := by rw [hd2]; rfl
  have f3 : d2.closed = false := by rw [hd2]; exact e10
  have f4 : d2.una = 501 := by rw [hd2]; exact e3
  have hw2 : d2.waits = false := by
    unfold CN.waits
    have hg : SB.get ⟨2048, 501, txt⟩ (501 + txt.length) 1 = [] := by
      unfold SB.get
      have : ahd 501 (501 + txt.length) = txt.length := by unfold ahd; omega
      dsimp only
      rw [this, if_pos (Or.inr (Int.le_refl _))]
    rw [f1, f2, f3, hg]
    rfl
  have hc2 : d2.can d2.rest = false := by unfold CN.can; rw [hw2]; simp
  have hp2 : ∀ k, CN.pour k d2 = d2 := by
    intro k
    cases k with
    | zero => rfl
    | succ k => unfold CN.pour; rw [hc2]; rfl
  have hfu : ∃ k, d.fuel = k + 1 := by
    unfold CN.fuel
    rw [e1, e2]
    have : ahd 501 501 = 0 := by decide
    dsimp only
    rw [this, if_pos (by omega)]
    exact ⟨_, rfl⟩
  obtain ⟨k, hk⟩ := hfu
  unfold CN.flush
  rw [if_pos e6, hk]
  unfold CN.pour
  rw [hr, if_pos hc, ← hr, hrun, hp2]
  unfold CN.idles
  rw [if_neg (by rw [f2, f4]; omega), hd2]
theorem sil_win0 {o : Tp} {txt : List UInt8} (hne : txt ≠ []) (hl : txt.length ≤ 100) (h1 : 1 ≤ o.least) (h2 : o.least ≤ o.first) (h3 : o.first ≤ o.most) (h4 : o.most ≤ 100) :
    ((cW o 0).write txt).out = [] ∧ Sil txt 3 o.tries 0 0 0 0 ((cW o 0).write txt).drain := by
  rw [write_win0 hne hl]
  obtain ⟨-, hb⟩ := clk_bd h1 h2 h3 h4
  have hb' := hb
  obtain ⟨b1, b2, b3, b4⟩ := hb'
  refine ⟨rfl, ⟨rfl, Or.inr (Or.inr ⟨rfl, rfl, rfl, rfl⟩)⟩, hb, ?_, ?_, Int.le_refl 0, ?_, Int.le_refl 0, by omega, Int.le_refl 0, rfl⟩
  · show (0 : Int) - 0 + ((Clk.start o.first o.least o.most).measure 0).wait = ((Clk.start o.first o.least o.most).measure 0).wait
    omega
  · show 1 ≤ ((Clk.start o.first o.least o.most).measure 0).wait
    omega
  · show 0 ≤ ((Clk.start o.first o.least o.most).measure 0).wait
    omega
theorem sil_win1 {o : Tp} {txt : List UInt8} (hne : txt ≠ []) (hl : txt.length ≤ 100) (h1 : 1 ≤ o.least) (h2 : o.least ≤ o.first) (h3 : o.first ≤ o.most) (h4 : o.most ≤ 100) (h5 : 1 ≤ o.tries) :
    (∃ s, ((cW o 1000).write txt).out = [s]) ∧ Sil txt 2 o.tries 0 0 0 0 ((cW o 1000).write txt).drain := by
  obtain ⟨d, rfl, hw⟩ := write_win1 (o := o) hne hl
  rw [hw]
  obtain ⟨-, hb⟩ := clk_bd h1 h2 h3 h4
  have hb' := hb
  obtain ⟨b1, b2, b3, b4⟩ := hb'
  refine ⟨⟨_, rfl⟩, ⟨rfl, Or.inr (Or.inl ⟨rfl, rfl, rfl, by omega, rfl, rfl, rfl, rfl, rfl⟩)⟩, hb, ?_, ?_, Int.le_refl 0, ?_, Int.le_refl 0, by omega, Int.le_refl 0, rfl⟩
  · show (0 : Int) - 0 + ((Clk.start o.first o.least o.most).measure 0).wait = ((Clk.start o.first o.least o.most).measure 0).wait
    omega
  · show 1 ≤ ((Clk.start o.first o.least o.most).measure 0).wait
    omega
  · show 0 ≤ ((Clk.start o.first o.least o.most).measure 0).wait
    omega
def Step1 (t last gap sent : Int) (l : List Sg) (last' gap' sent' : Int) : Prop :=
  (l = [] ∧ sent' = sent ∧ last' = last ∧ gap' = gap) ∨
  (∃ s, l = [s] ∧ ((hasF s.flags 4 = true ∧ sent' = sent ∧ last' = last ∧ gap' = gap) ∨ (hasF s.flags 4 = false ∧ sent' = sent + 1 ∧ last' = t + 1 ∧ gap' = t + 1 - last ∧ gap ≤ t + 1 - last ∧ t + 1 - last ≤ 100)))
def Over (K : Nat) (N sent : Int) (c : CN) : Prop := K ≠ 3 ∧ c.state = 9 ∧ c.reset = true ∧ sent = N
theorem Sil.step {txt : List UInt8} {K : Nat} {N t last gap sent : Int} {c : CN} (h : Sil txt K N t last gap sent c) (hne : txt ≠ []) (htx : txt.length ≤ 100) :
    ∃ last' gap' sent', Step1 t last gap sent c.tick.out last' gap' sent' ∧ (Sil txt K N (t + 1) last' gap' sent' c.tick.drain ∨ Over K N sent' c.tick.drain) := by
  by_cases hl : c.left = 1
  · obtain ⟨h1 | h1, h2, h3⟩ := h.event hne htx hl
    · obtain ⟨s, e1, e2, e3⟩ := h1
      exact ⟨_, _, _, Or.inr ⟨s, e1, Or.inr ⟨e2, rfl, rfl, rfl, h2, h3⟩⟩, Or.inl e3⟩
    · obtain ⟨e1, e2, e3, e4, e5⟩ := h1
      refine ⟨last, gap, sent, ?_, Or.inr ⟨e1, e2, e3, e4⟩⟩
      rcases e5 with e5 | ⟨s, e5, e6⟩
      · exact Or.inl ⟨e5, rfl, rfl, rfl⟩
      · exact Or.inr ⟨s, e5, Or.inl ⟨e6, rfl, rfl, rfl⟩⟩
  · have h1 := h.waits hl
    exact ⟨last, gap, sent, Or.inl ⟨h1.ot, rfl, rfl, rfl⟩, Or.inl ⟨h1.k, h1.ck, h1.tm, h1.lf, h1.g0, h1.g1, h1.l0, h1.l1, h1.l2, rfl⟩⟩
end Go.Proofs.Ytpmlojgngcllfaa
