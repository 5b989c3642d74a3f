/- ConnDone: how a connection stands that brings a stream over; what it sends. No walk in sight. -/
import Derived.Test.YtpmlojgngcllfaaConnSpec
import Derived.Test.YtpmlojgngcllfaaRbufFlow
namespace Go.Proofs.Ytpmlojgngcllfaa
open Go.RowKit Go

theorem ahd_off (z : Int) {a b : Nat} (h : a ≤ b) (hb : b ≤ 100000) : ahd ((z + (a : Int)) % 4294967296) ((z + (b : Int)) % 4294967296) = ((b - a : Nat) : Int) := by unfold ahd; omega
theorem eq_off (z : Int) {a b : Nat} (ha : a ≤ 100000) (hb : b ≤ 100000) : (z + (a : Int)) % 4294967296 = (z + (b : Int)) % 4294967296 ↔ a = b := by omega
theorem less_off (z : Int) {a b : Nat} (ha : a ≤ 100000) (hb : b ≤ 100000) : lessB ((z + (a : Int)) % 4294967296) ((z + (b : Int)) % 4294967296) = decide (a < b) := by
  unfold lessB ahd
  by_cases h : a < b
  · rw [decide_eq_true h]
    simp
    omega
  · rw [decide_eq_false h]
    simp
    omega
theorem step_off (z : Int) (a : Nat) (k : Nat) : ((z + (a : Int)) % 4294967296 + (k : Int)) % 4294967296 = (z + ((a + k : Nat) : Int)) % 4294967296 := by omega

/-- A place where a piece may begin or end. -/
def alg (T k : Nat) : Prop := k % 100 = 0 ∨ T ≤ k
/-- Where the next piece ends. -/
def nextv (T v : Nat) : Nat := if v < T then min (v + 100) T else v + 1
theorem nextv_lt (T v : Nat) : v < nextv T v := by unfold nextv; split <;> omega
theorem nextv_le (T v : Nat) : nextv T v ≤ v + 100 := by unfold nextv; split <;> omega
theorem nextv_al {T v : Nat} (h : alg T v) : alg T (nextv T v) := by unfold alg nextv at *; split <;> omega

/-- What a segment may say. -/
def Bod (iss : Int) (take : List UInt8) (closed : Bool) (W U t : Nat) (seq flags : Int) (data : List UInt8) : Prop :=
  (flags = 16 ∧ data = []) ∨ (flags = 18 ∧ seq = iss ∧ data = []) ∨
  (flags = 24 ∧ ∃ j : Nat, j < take.length ∧ j % 100 = 0 ∧ seq = (iss + 1 + (j : Int)) % 4294967296 ∧ data = (take.drop j).take 100 ∧ j + data.length ≤ W ∧ j + data.length ≤ U + 1000 ∧ j + data.length ≤ t) ∨
  (flags = 17 ∧ closed = true ∧ seq = (iss + 1 + (take.length : Int)) % 4294967296 ∧ data = [] ∧ take.length ≤ U + 1000 ∧ take.length + 1 ≤ t)
def Hon (iss irs : Int) (take : List UInt8) (closed : Bool) (W U t n : Nat) (s : Sg) : Prop :=
  (∃ k : Nat, k ≤ n ∧ s.ack = (irs + 1 + (k : Int)) % 4294967296) ∧ Bod iss take closed W U t s.seq s.flags s.data
theorem Bod.more {iss : Int} {take : List UInt8} {cl cl' : Bool} {W U t W' U' t' : Nat} {seq flags : Int} {data : List UInt8} (h : Bod iss take cl W U t seq flags data) (hc : cl = true → cl' = true) (hW : W ≤ W') (hU : U ≤ U') (ht : t ≤ t') : Bod iss take cl' W' U' t' seq flags data := by
  rcases h with h | h | ⟨h1, j, h2, h3, h4, h5, h6, h7, h8⟩ | ⟨h1, h2, h3, h4, h5, h6⟩
  · exact .inl h
  · exact .inr (.inl h)
  · exact .inr (.inr (.inl ⟨h1, j, h2, h3, h4, h5, by omega, by omega, by omega⟩))
  · exact .inr (.inr (.inr ⟨h1, hc h2, h3, h4, by omega, by omega⟩))
theorem Hon.more {iss irs : Int} {take : List UInt8} {cl cl' : Bool} {W U t W' U' t' n n' : Nat} {s : Sg} (h : Hon iss irs take cl W U t n s) (hc : cl = true → cl' = true) (hW : W ≤ W') (hU : U ≤ U') (ht : t ≤ t') (hn : n ≤ n') : Hon iss irs take cl' W' U' t' n' s := by
  obtain ⟨⟨k, hk, h1⟩, h2⟩ := h
  exact ⟨⟨k, by omega, h1⟩, h2.more hc hW hU ht⟩

/-- How much came. -/
def rcv (got : List UInt8) (c : CN) : Nat := got.length + c.rb.ready.length + (if c.eof then 1 else 0)
/-- How many numbers there are to be sent. -/
def eE (W : Nat) (closed : Bool) : Nat := W + (if closed then 1 else 0)
/-- The connection of ConnDone, but its timer: W bytes were written; the other end has U, and, if F, the Fin; got was read; q: how often the timer ran out at most; it went on to u, v, t. -/
structure K0 (iss irs : Int) (give take : List UInt8) (W U : Nat) (F : Bool) (got : List UInt8) (q : Int) (u v t : Nat) (c : CN) : Prop where
  is0 : 0 ≤ iss ∧ iss < 4294967296
  isq : c.iss = iss
  tl : take.length ≤ 3000
  wl : W ≤ take.length
  sb : c.sb = ⟨2048, (iss + 1 + ((min u W : Nat) : Int)) % 4294967296, (take.drop (min u W)).take (W - min u W)⟩
  sl : W ≤ min u W + 2048
  una : c.una = if c.state = 1 then iss else (iss + 1 + (u : Int)) % 4294967296
  nxt : c.nxt = (iss + 1 + (v : Int)) % 4294967296
  top : c.top = (iss + 1 + (t : Int)) % 4294967296
  uv : u ≤ v
  vt : v ≤ t
  tw : t ≤ eE W c.closed
  cl : c.closed = true → W = take.length
  ak : c.acked = true ↔ u = W + 1
  al : alg take.length u ∧ alg take.length v
  one : c.state = 1 → u = 0 ∧ v = 0 ∧ t = 0 ∧ U = 0 ∧ F = false ∧ c.eof = false ∧ got = [] ∧ c.rb.ready = []
  win : c.state ≠ 1 → c.window = 1000
  mss : c.mss = 100
  fill : c.state ≠ 1 → W = take.length ∨ u + 1000 ≤ W
  near : t ≤ u + 1000
  l8 : 0 ≤ c.left ∧ c.left ≤ 8
  ck : c.clk.Ok ∧ c.clk.most = 8
  ux : u ≤ U + (if F then 1 else 0)
  xt : U + (if F then 1 else 0) ≤ t
  fx : F = true → U = take.length ∧ W = take.length
  uw : U ≤ W
  rs : c.reset = false
  fl : Flow ((irs + 1) % 4294967296) give got c.rb
  rm : c.rb.room = 2048
  ef : c.eof = true → got.length + c.rb.ready.length = give.length
  out : ∀ s ∈ c.out, Hon iss irs take c.closed W U t (rcv got c) s
  o : c.o = ⟨3, 2, 8, 100, 4⟩
  tr : 0 ≤ c.tries ∧ c.tries ≤ q
  lg : c.state = 6 → 1 ≤ c.lingers ∧ c.lingers ≤ 4
  ag : 0 ≤ c.age
/-- Which state it is in. -/
def ST (c : CN) : Prop :=
  (c.state = 1 ∧ c.eof = false ∧ c.acked = false) ∨ (c.state = 2 ∧ c.closed = false ∧ c.eof = false ∧ c.acked = false) ∨ (c.state = 3 ∧ c.closed = true ∧ c.eof = false ∧ c.acked = false) ∨ (c.state = 4 ∧ c.closed = true ∧ c.eof = false ∧ c.acked = true) ∨
    (c.state = 5 ∧ c.closed = true ∧ c.eof = true ∧ c.acked = false) ∨ (c.state = 6 ∧ c.closed = true ∧ c.eof = true ∧ c.acked = true) ∨ (c.state = 7 ∧ c.closed = false ∧ c.eof = true ∧ c.acked = false) ∨
    (c.state = 8 ∧ c.closed = true ∧ c.eof = true ∧ c.acked = false) ∨ (c.state = 9 ∧ c.closed = true ∧ c.eof = true ∧ c.acked = true)
/-- And its timer. -/
structure K (iss irs : Int) (give take : List UInt8) (W U : Nat) (F : Bool) (got : List UInt8) (q : Int) (u v t : Nat) (c : CN) : Prop extends K0 iss irs give take W U F got q u v t c where
  tm : c.state ≠ 9 → (0 < c.left ↔ (u < t ∨ c.state = 1))

section
variable {iss irs : Int} {give take : List UInt8} {W U : Nat} {F : Bool} {got : List UInt8} {q : Int} {u v t : Nat} {c : CN}

theorem K0.want (h : K0 iss irs give take W U F got q u v t c) : c.want = (irs + 1 + ((rcv got c : Nat) : Int)) % 4294967296 := by
  have h1 := h.fl.lies.nx
  unfold CN.want rcv M32
  rw [h1]
  cases c.eof
  · simp
  · simp
    omega
theorem K0.say (h : K0 iss irs give take W U F got q u v t c) {seq flags mss : Int} {data : List UInt8} (hb : Bod iss take c.closed W U t seq flags data) : K0 iss irs give take W U F got q u v t (c.say seq flags mss data) := by
  have ho : ∀ s ∈ c.out ++ [⟨c.frm, c.dst, seq, c.want, flags, c.rb.win, mss, data⟩], Hon iss irs take c.closed W U t (rcv got c) s := fun s hs => by
    rcases List.mem_append.1 hs with h1 | h1
    · exact h.out s h1
    · have : s = ⟨c.frm, c.dst, seq, c.want, flags, c.rb.win, mss, data⟩ := by simpa using h1
      subst this
      exact ⟨⟨_, Nat.le_refl _, h.want⟩, hb⟩
  exact { h with out := ho }
theorem K0.tell (h : K0 iss irs give take W U F got q u v t c) : K0 iss irs give take W U F got q u v t c.tell := h.say (.inl ⟨rfl, rfl⟩)
theorem K.tell (h : K iss irs give take W U F got q u v t c) : K iss irs give take W U F got q u v t c.tell := ⟨h.toK0.tell, h.tm⟩

theorem K0.una1 (h : K0 iss irs give take W U F got q u v t c) (h1 : c.state ≠ 1) : c.una = (iss + 1 + (u : Int)) % 4294967296 := by rw [h.una, if_neg h1]
theorem K0.bd (h : K0 iss irs give take W U F got q u v t c) : u ≤ 3001 ∧ v ≤ 3001 ∧ t ≤ 3001 ∧ W ≤ 3000 := by
  have h1 := h.tw
  have h2 := h.uv
  have h3 := h.vt
  have h4 := h.wl
  have h5 := h.tl
  unfold eE at h1
  split at h1 <;> omega
/-- What is told from v on. -/
theorem K0.get (h : K0 iss irs give take W U F got q u v t c) {n : Int} (hn : 1 ≤ n) : c.sb.get c.nxt n = ((take.drop v).take (W - v)).take n.toNat := by
  obtain ⟨b1, b2, b3, b4⟩ := h.bd
  have huv := h.uv
  have hp : min u W ≤ v := by omega
  have hah : ahd c.sb.una c.nxt = ((v - min u W : Nat) : Int) := by rw [h.sb, h.nxt]; exact ahd_off _ hp (by omega)
  have hwl := h.wl
  have hsl : c.sb.s.length = W - min u W := by rw [h.sb]; show ((take.drop (min u W)).take (W - min u W)).length = _; rw [List.length_take, List.length_drop]; omega
  unfold SB.get
  rw [hah, hsl]
  by_cases hv : W ≤ v
  · rw [if_pos (.inr (by omega))]
    have : W - v = 0 := by omega
    rw [this]
    simp
  · rw [if_neg (by omega), h.sb]
    show List.take _ (List.drop _ ((take.drop (min u W)).take (W - min u W))) = _
    rw [Int.toNat_natCast, List.drop_take, List.drop_drop, show min u W + (v - min u W) = v from by omega, show W - min u W - (v - min u W) = W - v from by omega]
theorem K0.fin (h : K0 iss irs give take W U F got q u v t c) : c.fin = (iss + 1 + (W : Int)) % 4294967296 := by
  have hwl := h.wl
  have hsl : c.sb.s.length = W - min u W := by rw [h.sb]; show ((take.drop (min u W)).take (W - min u W)).length = _; rw [List.length_take, List.length_drop]; omega
  unfold CN.fin M32
  rw [hsl, h.sb]
  show ((iss + 1 + ((min u W : Nat) : Int)) % 4294967296 + _) % 4294967296 = _
  rw [step_off]
  congr 3
  omega
theorem K0.waits (h : K0 iss irs give take W U F got q u v t c) : c.waits = decide (v < eE W c.closed) := by
  obtain ⟨b1, b2, b3, b4⟩ := h.bd
  have hwl := h.wl
  unfold CN.waits
  rw [h.get (Int.le_refl 1), h.fin, h.nxt]
  have hlen : (((take.drop v).take (W - v)).take (1 : Int).toNat).length = min 1 (W - v) := by
    rw [List.length_take, List.length_take, List.length_drop]
    show min 1 (min (W - v) (take.length - v)) = _
    omega
  have he : ((((take.drop v).take (W - v)).take (1 : Int).toNat).isEmpty) = decide (W ≤ v) := by
    by_cases hv : W ≤ v
    · rw [decide_eq_true hv, List.isEmpty_iff]
      exact List.eq_nil_of_length_eq_zero (by omega)
    · rw [decide_eq_false hv]
      cases hx : ((take.drop v).take (W - v)).take (1 : Int).toNat with
      | nil => rw [hx] at hlen; simp at hlen; omega
      | cons _ _ => rfl
  rw [he]
  have hak := h.ak
  have huv := h.uv
  have hq : decide ((iss + 1 + (v : Int)) % 4294967296 = (iss + 1 + (W : Int)) % 4294967296) = decide (v = W) := by
    by_cases hv : v = W
    · subst hv; simp
    · rw [decide_eq_false hv, decide_eq_false]
      intro hx
      exact hv ((eq_off _ (by omega) (by omega)).1 hx)
  rw [hq]
  unfold eE
  rcases (by omega : v < W ∨ v = W ∨ W < v) with hv | hv | hv
  · rw [decide_eq_false (by omega : ¬ W ≤ v), decide_eq_true (by split <;> omega : v < W + if c.closed = true then 1 else 0)]
    rfl
  · have hna : c.acked = false := by
      cases hx : c.acked
      · rfl
      · have := hak.1 hx; omega
    rw [hna, decide_eq_true (by omega : W ≤ v), decide_eq_true hv]
    cases c.closed
    · simp; omega
    · simp; omega
  · rw [decide_eq_true (by omega : W ≤ v), decide_eq_false (by omega : ¬ v = W), decide_eq_false (by split <;> omega)]
    simp
/-- The next piece. -/
theorem K0.bit (h : K0 iss irs give take W U F got q u v t c) {n : Int} (hn : 100 ≤ n) (hf : W = take.length ∨ v + 100 ≤ W) : c.bit n = (take.drop v).take 100 ∧ ((c.bit n).length = nextv take.length v - v ∨ take.length ≤ v) := by
  have hwl := h.wl
  have e : c.bit n = (take.drop v).take 100 := by
    unfold CN.bit
    rw [h.mss, h.get (by omega), show (min n 100).toNat = 100 from by omega, List.take_take]
    rcases hf with hf | hf
    · subst hf
      rw [Nat.min_def]
      split
      · rfl
      · rw [List.take_of_length_le (l := take.drop v) (i := 100) (by rw [List.length_drop]; omega), List.take_of_length_le (by rw [List.length_drop]; omega)]
    · rw [show min 100 (W - v) = 100 from by omega]
  refine ⟨e, ?_⟩
  rw [e, List.length_take, List.length_drop]
  unfold nextv
  split <;> omega

/-- What a flush leaves alone. -/
structure Kp (c d : CN) : Prop where
  st : d.state = c.state
  cl : d.closed = c.closed
  ef : d.eof = c.eof
  rb : d.rb = c.rb
  tr : d.tries = c.tries
  ck : d.clk = c.clk
  lg : d.lingers = c.lingers
  ua : d.una = c.una
  ak : d.acked = c.acked
  out : ∀ s ∈ c.out, s ∈ d.out
theorem Kp.refl (c : CN) : Kp c c := ⟨rfl, rfl, rfl, rfl, rfl, rfl, rfl, rfl, rfl, fun _ h => h⟩
theorem Kp.trans {a b d : CN} (h : Kp a b) (k : Kp b d) : Kp a d :=
  ⟨k.st.trans h.st, k.cl.trans h.cl, k.ef.trans h.ef, k.rb.trans h.rb, k.tr.trans h.tr, k.ck.trans h.ck, k.lg.trans h.lg, k.ua.trans h.ua, k.ak.trans h.ak, fun s hs => k.out s (h.out s hs)⟩
theorem ST.kp {c d : CN} (h : ST c) (k : Kp c d) : ST d := by
  unfold ST at *
  rw [k.st, k.cl, k.ef, k.ak]
  exact h
theorem Kp.say (c : CN) (seq flags mss : Int) (data : List UInt8) : Kp c (c.say seq flags mss data) := ⟨rfl, rfl, rfl, rfl, rfl, rfl, rfl, rfl, rfl, fun _ hs => List.mem_append.2 (.inl hs)⟩
/-- The piece at v was sent. -/
def Cov (iss : Int) (take : List UInt8) (v : Nat) (l : List Sg) : Prop :=
  ∃ s ∈ l, s.seq = (iss + 1 + (v : Int)) % 4294967296 ∧ ((v < take.length ∧ s.flags = 24 ∧ s.data = (take.drop v).take 100) ∨ (v = take.length ∧ s.flags = 17 ∧ s.data = []))
theorem K0.meas (h : K0 iss irs give take W U F got q u v t c) (b : Bool) (x : Int) (a : Int) (ha : 0 ≤ a) : K0 iss irs give take W U F got q u v t { c with measures := b, measureTo := x, age := a } := { h with ag := ha }
theorem K0.put (h : K0 iss irs give take W U F got q u v t c) {v' : Nat} (hv : v ≤ v') (he : v' ≤ eE W c.closed) (ha : alg take.length v') (hn : v' ≤ u + 1000) (h1 : c.state ≠ 1) :
    K0 iss irs give take W U F got q u v' (max t v') { c with nxt := (iss + 1 + (v' : Int)) % 4294967296, top := (iss + 1 + ((max t v' : Nat) : Int)) % 4294967296 } := by
  have huv := h.uv
  have htw := h.tw
  have hxt := h.xt
  exact { h with
    nxt := rfl
    top := rfl
    uv := by omega
    vt := by omega
    tw := by show max t v' ≤ eE W c.closed; omega
    al := ⟨h.al.1, ha⟩
    one := fun hx => absurd hx h1
    near := by have := h.near; omega
    xt := by omega
    out := fun s hs => (h.out s hs).more (fun hc => hc) (Nat.le_refl _) (Nat.le_refl _) (Nat.le_max_left _ _) (Nat.le_refl _) }
theorem CN.went_yes (d : CN) (h : lessB d.top d.nxt = true) : d.went = { d with top := d.nxt } ∨ d.went = { d with top := d.nxt, measures := true, measureTo := d.nxt, age := 0 } := by
  unfold CN.went
  rw [if_pos h]
  by_cases hm : d.measures = true
  · rw [if_pos hm]; exact .inl rfl
  · rw [if_neg hm]; exact .inr rfl
theorem CN.went_no (d : CN) (h : lessB d.top d.nxt = false) : d.went = d := by
  unfold CN.went
  rw [if_neg (by rw [h]; decide)]
theorem K0.piece (h : K0 iss irs give take W U F got q u v t c) {n : Int} (h1 : c.state ≠ 1) (hv : v < eE W c.closed) (hn1 : 1 ≤ n) (hn : v < take.length → 100 ≤ n) (hnear : nextv take.length v ≤ u + 1000) :
    K0 iss irs give take W U F got q u (nextv take.length v) (max t (nextv take.length v)) (c.piece n) ∧ Kp c (c.piece n) ∧ Cov iss take v (c.piece n).out ∧ (c.piece n).left = c.left ∧ (∃ s ∈ (c.piece n).out, s.ack = c.want) := by
  obtain ⟨b1, b2, b3, b4⟩ := h.bd
  have hwl := h.wl
  have huv := h.uv
  have hcan : c.can n = true := by
    unfold CN.can
    rw [h.waits, decide_eq_true hn1, decide_eq_true hv]
    rfl
  have hvw : v < W ∨ (v = W ∧ c.closed = true ∧ W = take.length) := by
    unfold eE at hv
    rcases (by omega : v < W ∨ W ≤ v) with h2 | h2
    · exact .inl h2
    · right
      cases hc : c.closed
      · rw [hc] at hv; simp at hv; omega
      · rw [hc] at hv; simp at hv; exact ⟨by omega, rfl, h.cl hc⟩
  have hnv := nextv_lt take.length v
  have hfl : W = take.length ∨ nextv take.length v ≤ W := by
    rcases h.fill h1 with h2 | h2
    · exact .inl h2
    · exact .inr (by omega)
  have huU : v ≤ take.length → u ≤ U := fun h2 => by
    have h3 := h.ux
    have h4 := h.fx
    cases hF : F
    · rw [hF] at h3; simpa using h3
    · have := (h4 hF).1; omega
  obtain ⟨fl, data, hsent, hbod, hcov, hlen⟩ : ∃ (fl : Int) (data : List UInt8), c.sent n = { c.say c.nxt fl 0 data with nxt := (iss + 1 + ((nextv take.length v : Nat) : Int)) % 4294967296 } ∧ Bod iss take c.closed W U (max t (nextv take.length v)) c.nxt fl data ∧
      ((v < take.length ∧ fl = 24 ∧ data = (take.drop v).take 100) ∨ (v = take.length ∧ fl = 17 ∧ data = [])) ∧ nextv take.length v ≤ eE W c.closed := by
    rcases hvw with h2 | ⟨h2, h3, h4⟩
    · have h5 : v < take.length := by omega
      have hf2 : W = take.length ∨ v + 100 ≤ W := by
        rcases hfl with h6 | h6
        · exact .inl h6
        · unfold nextv at h6; rw [if_pos h5] at h6; omega
      obtain ⟨hb, hl⟩ := h.bit (hn h5) hf2
      have hl2 : (c.bit n).length = nextv take.length v - v := by rcases hl with h6 | h6 <;> omega
      have hne : c.bit n ≠ [] := fun h0 => by rw [h0] at hl2; simp at hl2; omega
      have hle : nextv take.length v ≤ W := by
        unfold nextv at hfl ⊢
        rw [if_pos h5] at hfl ⊢
        omega
      refine ⟨24, c.bit n, ?_, ?_, .inl ⟨h5, rfl, hb⟩, by unfold eE; omega⟩
      · unfold CN.sent
        rw [if_neg hne]
        have : (c.nxt + ((c.bit n).length : Int)) % M32 = (iss + 1 + ((nextv take.length v : Nat) : Int)) % 4294967296 := by
          unfold M32
          rw [h.nxt, step_off, hl2, show v + (nextv take.length v - v) = nextv take.length v from by omega]
        rw [this]
      · refine .inr (.inr (.inl ⟨rfl, v, h5, ?_, h.nxt, hb, by omega, ?_, by omega⟩))
        · rcases h.al.2 with h6 | h6 <;> omega
        · have := huU (by omega); omega
    · have h5 : ¬ v < take.length := by omega
      have hb : c.bit n = [] := by
        unfold CN.bit
        rw [h.mss, h.get (by omega), show W - v = 0 from by omega]
        simp
      have hnx : nextv take.length v = v + 1 := by unfold nextv; rw [if_neg h5]
      refine ⟨17, [], ?_, ?_, .inr ⟨by omega, rfl, rfl⟩, by unfold eE; rw [h3, hnx, h2]; simp⟩
      · unfold CN.sent
        rw [if_pos hb]
        have : (c.nxt + 1) % M32 = (iss + 1 + ((nextv take.length v : Nat) : Int)) % 4294967296 := by
          unfold M32
          rw [h.nxt, hnx]
          have := step_off (iss + 1) v 1
          simpa using this
        rw [this]
      · refine .inr (.inr (.inr ⟨rfl, h3, ?_, rfl, ?_, by omega⟩))
        · rw [h.nxt, h2, h4]
        · have := huU (by omega); omega
  have hk0 := K0.put h (v' := nextv take.length v) (by omega) hlen (nextv_al h.al.2) hnear h1
  have hk1 := hk0.say (mss := 0) hbod
  have hk : K0 iss irs give take W U F got q u (nextv take.length v) (max t (nextv take.length v)) { c.say c.nxt fl 0 data with nxt := (iss + 1 + ((nextv take.length v : Nat) : Int)) % 4294967296, top := (iss + 1 + ((max t (nextv take.length v) : Nat) : Int)) % 4294967296 } := hk1
  have hcv : Cov iss take v (c.say c.nxt fl 0 data).out := ⟨⟨c.frm, c.dst, c.nxt, c.want, fl, c.rb.win, 0, data⟩, List.mem_append.2 (.inr (List.mem_singleton.2 rfl)), h.nxt, hcov⟩
  have hkp := Kp.say c c.nxt fl 0 data
  have hwa : ∃ s ∈ (c.say c.nxt fl 0 data).out, s.ack = c.want := ⟨⟨c.frm, c.dst, c.nxt, c.want, fl, c.rb.win, 0, data⟩, List.mem_append.2 (.inr (List.mem_singleton.2 rfl)), rfl⟩
  have hp : c.piece n = (c.sent n).went := by unfold CN.piece; rw [if_pos hcan]
  have hless : lessB c.top ((iss + 1 + ((nextv take.length v : Nat) : Int)) % 4294967296) = decide (t < nextv take.length v) := by
    rw [h.top]
    exact less_off _ (by omega) (by have := nextv_le take.length v; omega)
  rw [hp, hsent]
  by_cases ht : t < nextv take.length v
  · have hm : max t (nextv take.length v) = nextv take.length v := by omega
    rw [hm] at hk ⊢
    rcases CN.went_yes { c.say c.nxt fl 0 data with nxt := (iss + 1 + ((nextv take.length v : Nat) : Int)) % 4294967296 } (by show lessB c.top _ = true; rw [hless, decide_eq_true ht]) with e | e
    · rw [e]
      exact ⟨hk, ⟨rfl, rfl, rfl, rfl, rfl, rfl, rfl, rfl, rfl, hkp.out⟩, hcv, rfl, hwa⟩
    · rw [e]
      exact ⟨K0.meas hk true ((iss + 1 + ((nextv take.length v : Nat) : Int)) % 4294967296) 0 (Int.le_refl 0), ⟨rfl, rfl, rfl, rfl, rfl, rfl, rfl, rfl, rfl, hkp.out⟩, hcv, rfl, hwa⟩
  · rw [CN.went_no { c.say c.nxt fl 0 data with nxt := (iss + 1 + ((nextv take.length v : Nat) : Int)) % 4294967296 } (by show lessB c.top _ = false; rw [hless, decide_eq_false ht])]
    have hm : max t (nextv take.length v) = t := by omega
    rw [hm] at hk ⊢
    have hk2 : K0 iss irs give take W U F got q u (nextv take.length v) t { c.say c.nxt fl 0 data with nxt := (iss + 1 + ((nextv take.length v : Nat) : Int)) % 4294967296 } := { hk with top := h.top }
    exact ⟨hk2, ⟨rfl, rfl, rfl, rfl, rfl, rfl, rfl, rfl, rfl, hkp.out⟩, hcv, rfl, hwa⟩
end
end Go.Proofs.Ytpmlojgngcllfaa
