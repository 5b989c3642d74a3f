/- The stage's theorem in plain words: what is read of a stream is a beginning of it. No program in sight. -/
import Derived.Test.YtpmlojgngcllfaaRbufPlain
import Derived.Test.YtpmlojgngcllfaaRbufRead
namespace Go.Proofs.Ytpmlojgngcllfaa

/-- The buffer r waits for byte c of the stream st, whose first byte has the number next; what it holds is of the stream, below W. -/
structure Lies (next : Int) (st : List UInt8) (c W : Nat) (r : RB) : Prop where
  ok : r.Ok
  cl : c ≤ st.length
  sl : st.length ≤ 3000
  wr : W ≤ r.room
  nx : r.next = (next + (c : Int)) % 4294967296
  held : ∀ p, r.has.getD p false = true → p < W ∧ c + p < st.length ∧ r.data.getD p 0 = st.getD (c + p) 0

theorem Lies.one {next : Int} {st : List UInt8} {c W : Nat} {r : RB} (h : Lies next st c W r) {j : Nat} (hj : j < st.length) {x : Int} (hx : x = (next + (j : Int)) % 4294967296) : Lies next st c W (r.one W x (st.getD j 0)) := by
  have hcl := h.cl
  have hsl := h.sl
  have hwr := h.wr
  have h2 := h.ok.r2
  refine ⟨h.ok.one h.wr x _, h.cl, h.sl, by rw [(RB.one_room r W x _).1]; exact h.wr, by rw [(RB.one_room r W x _).2.1]; exact h.nx, ?_⟩
  intro p hp
  unfold RB.one at hp ⊢
  by_cases ht : r.takes W x
  · rw [if_pos ht] at hp ⊢
    have t1 := ht.1
    have ha : ahd r.next x = ((j : Int) - (c : Int)) % 4294967296 := by
      unfold ahd
      rw [hx, h.nx]
      omega
    have hcj : c ≤ j := by
      rw [ha] at t1
      omega
    have hK : (ahd r.next x).toNat = j - c := by rw [ha]; omega
    have hKW : j - c < W := by rw [ha] at t1; omega
    change (r.has.set (ahd r.next x).toNat true).getD p false = true at hp
    show p < W ∧ c + p < st.length ∧ (r.data.set (ahd r.next x).toNat (st.getD j 0)).getD p 0 = _
    rw [hK, getD_set _ _ _ _ _ (by rw [h.ok.hl]; omega)] at hp
    rw [hK, getD_set _ _ _ _ _ (by rw [h.ok.dl]; omega)]
    by_cases hpk : j - c = p
    · subst hpk
      rw [if_pos rfl, Nat.add_sub_cancel' hcj]
      exact ⟨hKW, hj, rfl⟩
    · rw [if_neg hpk] at hp ⊢
      exact h.held p hp
  · rw [if_neg ht] at hp ⊢
    exact h.held p hp
theorem Lies.many {next : Int} {st : List UInt8} {c W : Nat} {r : RB} (h : Lies next st c W r) {at_ : Nat} {seq : Int} (hseq : seq = (next + (at_ : Int)) % 4294967296) {l : List UInt8} (hl : at_ + l.length ≤ st.length) (hle : ∀ i, i < l.length → l.getD i 0 = st.getD (at_ + i) 0) :
    ∀ i, i ≤ l.length → Lies next st c W (r.many W seq l i)
  | 0, _ => h
  | i + 1, hi => by
    have ih := Lies.many h hseq hl hle i (by omega)
    show Lies next st c W ((r.many W seq l i).one W ((seq + i) % 4294967296) (l.getD i 0))
    rw [hle i (by omega)]
    exact ih.one (by omega) (by rw [hseq]; omega)

/-- The same with what was read: got; nothing lies beyond the window. -/
structure Flow (next : Int) (st got : List UInt8) (r : RB) : Prop where
  lies : Lies next st (got.length + r.ready.length) r.win r
  eq : got ++ r.ready = st.take (got.length + r.ready.length)

theorem Flow.start {next : Int} {room : Nat} {st : List UInt8} (h1 : 1 ≤ room) (h2 : room ≤ 2048) (n1 : 0 ≤ next) (n2 : next < 4294967296) (hs : st.length ≤ 3000) : Flow next st [] (RB.start room next) := by
  refine ⟨⟨RB.start_ok h1 h2 n1 n2, Nat.zero_le _, hs, by unfold RB.win; omega, ?_, ?_⟩, rfl⟩
  · show next = (next + ((0 : Nat) : Int)) % 4294967296
    omega
  · intro p hp
    have hz : (List.replicate room false).getD p false = false := by
      rw [List.getD_eq_getElem?_getD, List.getElem?_replicate]
      split <;> rfl
    change (List.replicate room false).getD p false = true at hp
    rw [hz] at hp
    cases hp
theorem getD_append (a b : List Bool) (p : Nat) : (a ++ b).getD p false = if p < a.length then a.getD p false else b.getD (p - a.length) false := by
  rw [List.getD_eq_getElem?_getD, List.getD_eq_getElem?_getD, List.getD_eq_getElem?_getD]
  split
  · rw [List.getElem?_append_left (by assumption)]
  · rw [List.getElem?_append_right (by omega)]
theorem getD_drop {α : Type} (a : List α) (n p : Nat) (d : α) : (a.drop n).getD p d = a.getD (n + p) d := by
  rw [List.getD_eq_getElem?_getD, List.getD_eq_getElem?_getD, List.getElem?_drop]
theorem getD_rep (n p : Nat) : (List.replicate n false).getD p false = false := by
  rw [List.getD_eq_getElem?_getD, List.getElem?_replicate]
  split <;> rfl
theorem take_more {st : List UInt8} {c n : Nat} {d : List UInt8} (hl : c + n ≤ st.length) (hd : n ≤ d.length) (h : ∀ p, p < n → d.getD p 0 = st.getD (c + p) 0) : st.take c ++ d.take n = st.take (c + n) := by
  have hdt : d.take n = (st.drop c).take n := by
    apply List.ext_getElem?
    intro j
    rw [List.getElem?_take, List.getElem?_take]
    split
    · rename_i hj
      have := h j hj
      rw [List.getElem?_drop, List.getElem?_eq_getElem (by omega), List.getElem?_eq_getElem (by omega)]
      rw [List.getD_eq_getElem?_getD, List.getD_eq_getElem?_getD, List.getElem?_eq_getElem (by omega), List.getElem?_eq_getElem (by omega)] at this
      have e : d[j]'(by omega) = st[c + j]'(by omega) := this
      rw [e]
    · rfl
  rw [hdt, ← List.take_add]

theorem Flow.put {next : Int} {st got : List UInt8} {r : RB} (h : Flow next st got r) {at_ : Nat} {seq : Int} (hseq : seq = (next + (at_ : Int)) % 4294967296) {l : List UInt8} (hl : at_ + l.length ≤ st.length) (hle : ∀ i, i < l.length → l.getD i 0 = st.getD (at_ + i) 0) :
    Flow next st got (r.put seq l) := by
  have hsl := h.lies.sl
  have hm := h.lies.many hseq hl hle l.length (Nat.le_refl _)
  have hf : r.filled seq l = r.many r.win seq l l.length := by unfold RB.filled; rw [Nat.min_eq_left (by omega)]
  have hput : r.put seq l = (r.filled seq l).slide (r.putN seq l) := rfl
  have hokp := h.lies.ok.put seq l
  have hle2 := RB.putN_le r seq l
  have hdef : r.putN seq l = lead (r.filled seq l).has r.win := rfl
  have hlg := lead_get (r.filled seq l).has r.win
  have hll := (lead_le (r.filled seq l).has r.win).2.1
  rw [← hdef] at hlg hll
  have hrd : (r.filled seq l).ready = r.ready := by rw [hf]; exact (RB.many_room r r.win seq l l.length).2.2
  have hrm : (r.filled seq l).room = r.room := by rw [hf]; exact (RB.many_room r r.win seq l l.length).1
  rw [← hf] at hm
  rw [hput] at hokp ⊢
  generalize r.putN seq l = N at *
  generalize r.filled seq l = q at *
  have hql := hm.ok.hl
  have hqd := hm.ok.dl
  have hwin : r.win = r.room - r.ready.length := rfl
  have hNlen : got.length + r.ready.length + N ≤ st.length := by
    rcases Nat.eq_zero_or_pos N with h0 | h0
    · have := h.lies.cl; omega
    · have := (hm.held (N - 1) (by rw [List.getD_eq_getElem?_getD, hlg (N - 1) (by omega)]; rfl)).2.1
      omega
  have hrl : (q.ready ++ q.data.take N).length = r.ready.length + N := by
    rw [List.length_append, List.length_take, hrd]
    omega
  have hc : got.length + (q.slide N).ready.length = got.length + r.ready.length + N := by
    show got.length + (q.ready ++ q.data.take N).length = _
    omega
  have hw : (q.slide N).win = r.win - N := by
    show q.room - (q.ready ++ q.data.take N).length = _
    rw [hrl, hrm]
    omega
  refine ⟨⟨hokp, by omega, hsl, by unfold RB.win; omega, ?_, ?_⟩, ?_⟩
  · show (q.next + (N : Int)) % 4294967296 = _
    rw [hm.nx, hc]
    omega
  · intro p hp
    change (q.has.drop N ++ List.replicate N false).getD p false = true at hp
    rw [getD_append, getD_drop, getD_rep] at hp
    split at hp
    · rename_i hlt
      rw [List.length_drop] at hlt
      obtain ⟨a, b, c⟩ := hm.held _ hp
      refine ⟨by rw [hw]; omega, by omega, ?_⟩
      show (q.data.drop N ++ q.data.drop (q.room - N)).getD p 0 = _
      rw [hc, List.getD_eq_getElem?_getD, List.getElem?_append_left (by rw [List.length_drop]; omega), ← List.getD_eq_getElem?_getD, getD_drop, c]
      congr 1
      omega
    · cases hp
  · show got ++ (q.ready ++ q.data.take N) = _
    rw [hc, ← List.append_assoc, hrd, h.eq]
    exact take_more hNlen (by omega) (fun p hp => (hm.held p (by rw [List.getD_eq_getElem?_getD, hlg p hp]; rfl)).2.2)

theorem Flow.read {next : Int} {st got : List UInt8} {r : RB} (h : Flow next st got r) (n : Int) : Flow next st (got ++ r.ready.take (r.take n)) (r.read n) := by
  have ht : r.take n ≤ r.ready.length := Nat.min_le_right _ _
  have hc : (got ++ r.ready.take (r.take n)).length + (r.read n).ready.length = got.length + r.ready.length := by
    show (got ++ r.ready.take (r.take n)).length + (r.ready.drop (r.take n)).length = _
    rw [List.length_append, List.length_take, List.length_drop]
    omega
  have hw : r.win ≤ (r.read n).win := by
    show r.room - r.ready.length ≤ r.room - (r.ready.drop (r.take n)).length
    rw [List.length_drop]
    omega
  refine ⟨?_, ?_⟩
  · rw [hc]
    exact ⟨h.lies.ok.read n, h.lies.cl, h.lies.sl, Nat.sub_le _ _, h.lies.nx, fun p hp => ⟨Nat.lt_of_lt_of_le (h.lies.held p hp).1 hw, (h.lies.held p hp).2⟩⟩
  · rw [hc, ← h.eq]
    show (got ++ r.ready.take (r.take n)) ++ r.ready.drop (r.take n) = _
    rw [List.append_assoc, List.take_append_drop]

theorem Flow.got_le {next : Int} {st got : List UInt8} {r : RB} (h : Flow next st got r) : got.length + r.ready.length ≤ st.length := h.lies.cl
theorem Flow.got_eq {next : Int} {st got : List UInt8} {r : RB} (h : Flow next st got r) : st.take got.length = got := by
  have h1 := congrArg (List.take got.length) h.eq
  rw [List.take_left', List.take_take, Nat.min_eq_left (by omega)] at h1
  · exact h1.symm
  · rfl
theorem count_below : ∀ (l : List Bool) (W : Nat), (∀ p, l.getD p false = true → p < W) → l.count true ≤ W
  | [], _, _ => Nat.zero_le _
  | true :: l, 0, h => absurd (h 0 rfl) (by omega)
  | true :: l, W + 1, h => by
    rw [List.count_cons_self]
    exact Nat.succ_le_succ (count_below l W fun p hp => by have := h (p + 1) hp; omega)
  | false :: l, W, h => by
    rw [List.count_cons_of_ne (by simp)]
    exact count_below l W fun p hp => by have := h (p + 1) hp; omega
theorem Flow.held_le {next : Int} {st got : List UInt8} {r : RB} (h : Flow next st got r) : (r.ready.length : Int) + r.held ≤ r.room := by
  have h1 := count_below r.has r.win fun p hp => (h.lies.held p hp).1
  have h2 := h.lies.ok.rl
  rw [h.lies.ok.hc]
  unfold RB.win at h1
  omega

theorem lead_ge {l : List Bool} {W m : Nat} (h1 : m ≤ W) (h2 : m ≤ l.length) (h3 : ∀ j, j < m → l.getD j false = true) : m ≤ lead l W := by
  obtain ⟨a, b, -⟩ := lead_le l W
  rcases Nat.lt_or_ge (lead l W) m with hlt | hge
  · have hs := lead_stop l W (by omega) (by omega)
    rw [getD_some (by omega), h3 _ hlt] at hs
    cases hs
  · exact hge
/-- All that lacks is put, and read. -/
theorem Flow.all {next : Int} {st got : List UInt8} {r : RB} (h : Flow next st got r) {seq : Int} (hseq : seq = (next + ((got.length + r.ready.length : Nat) : Int)) % 4294967296) :
    ∃ got', got' = got ++ (r.put seq (st.drop (got.length + r.ready.length))).ready ∧ Flow next st got' ((r.put seq (st.drop (got.length + r.ready.length))).read 3000) ∧
      (r.put seq (st.drop (got.length + r.ready.length))).ready.take ((r.put seq (st.drop (got.length + r.ready.length))).take 3000) = (r.put seq (st.drop (got.length + r.ready.length))).ready ∧
      ((r.put seq (st.drop (got.length + r.ready.length))).read 3000).ready = [] ∧
      got.length + r.ready.length ≤ got'.length ∧ (r.ready = [] → got.length < st.length → got.length < got'.length) := by
  have hsl := h.lies.sl
  have hcl := h.lies.cl
  obtain ⟨c, hcdef⟩ : ∃ c, got.length + r.ready.length = c := ⟨_, rfl⟩
  have hnx := h.lies.nx
  rw [hcdef] at hseq hcl hnx ⊢
  have hdl : (st.drop c).length = st.length - c := List.length_drop
  have hp := h.put hseq (l := st.drop c) (by omega) (fun i hi => getD_drop st c i 0)
  have hpr := hp.read 3000
  have hwl : r.win ≤ r.room := Nat.sub_le _ _
  have hlead : min r.win (st.length - c) ≤ r.putN seq (st.drop c) := by
    have hch := RB.many_char h.lies.ok hwl (seq := seq) (s := 0) (l := st.drop c) (by rw [hnx, hseq]; omega) (by omega) (st.drop c).length (Nat.le_refl _)
    have hf : r.filled seq (st.drop c) = r.many r.win seq (st.drop c) (st.drop c).length := by unfold RB.filled; rw [Nat.min_eq_left (by omega)]
    have hfl := (h.lies.ok.filled seq (st.drop c)).hl
    rw [show (r.filled seq (st.drop c)).room = r.room from by rw [hf]; exact (RB.many_room r r.win seq _ _).1] at hfl
    refine lead_ge (by omega) (by omega) (fun j hj => ?_)
    rw [hf, (hch j).1, decide_eq_true (by omega), Bool.or_true]
  have hrdy : (r.put seq (st.drop c)).ready.length = r.ready.length + r.putN seq (st.drop c) := by
    show ((r.filled seq (st.drop c)).ready ++ (r.filled seq (st.drop c)).data.take _).length = _
    obtain ⟨e1, e2, e3⟩ := RB.many_room r r.win seq (st.drop c) (min (st.drop c).length 65536)
    have hfd := (h.lies.ok.filled seq (st.drop c)).dl
    have : (r.filled seq (st.drop c)).room = r.room := e1
    have e3' : (r.filled seq (st.drop c)).ready = r.ready := e3
    have hN := RB.putN_le r seq (st.drop c)
    rw [List.length_append, List.length_take, e3']
    omega
  have htk : (r.put seq (st.drop c)).take 3000 = (r.put seq (st.drop c)).ready.length := by
    have h1 := hp.lies.ok.rl
    have h2 := hp.lies.ok.r2
    unfold RB.take
    omega
  have hall : (r.put seq (st.drop c)).ready.take ((r.put seq (st.drop c)).take 3000) = (r.put seq (st.drop c)).ready := by rw [htk, List.take_length]
  rw [hall] at hpr
  refine ⟨_, rfl, hpr, hall, ?_, ?_, ?_⟩
  · show (r.put seq (st.drop c)).ready.drop _ = []
    rw [htk, List.drop_length]
  · rw [List.length_append, hrdy]
    omega
  · intro h0 hlt
    rw [List.length_append, hrdy]
    have hr1 := h.lies.ok.r1
    have h0l : r.ready.length = 0 := by rw [h0]; rfl
    have : r.win = r.room := by unfold RB.win; omega
    omega

/-- How the second loop stands before round i. -/
def Tail (next : Int) (st got : List UInt8) (r : RB) (i : Nat) : Prop := Flow next st got r ∧ (i = 0 ∨ (r.ready = [] ∧ (i ≤ got.length + 1 ∨ got.length = st.length)))
theorem Tail.step {next : Int} {st got got' : List UInt8} {r r' : RB} {i : Nat} (h : Tail next st got r i) (hf : Flow next st got' r') (hr : r'.ready = []) (h1 : got.length + r.ready.length ≤ got'.length) (h2 : r.ready = [] → got.length < st.length → got.length < got'.length) : Tail next st got' r' (i + 1) := by
  have hle := hf.got_le
  have hle2 := h.1.got_le
  rw [hr, List.length_nil] at hle
  refine ⟨hf, .inr ⟨hr, ?_⟩⟩
  rcases h.2 with rfl | ⟨h3, h4⟩
  · exact .inl (by omega)
  · rcases h4 with h4 | h4
    · rcases Nat.lt_or_ge got.length st.length with h5 | h5
      · have := h2 h3 h5
        exact .inl (by omega)
      · exact .inr (by omega)
    · exact .inr (by omega)
theorem Tail.done {next : Int} {st got : List UInt8} {r : RB} (h : Tail next st got r (st.length + 1)) : got = st ∧ r.ready = [] ∧ r.held = 0 := by
  obtain ⟨hf, h0⟩ := h
  rcases h0 with h0 | ⟨hr, h0⟩
  · omega
  · have hle := hf.got_le
    rw [hr, List.length_nil] at hle
    have hlen : got.length = st.length := by omega
    refine ⟨?_, hr, ?_⟩
    · rw [← hf.got_eq, hlen, List.take_length]
    · have : r.has.count true ≤ 0 := count_below r.has 0 fun p hp => by
        have := (hf.lies.held p hp).2.1
        rw [hr, List.length_nil] at this
        omega
      rw [hf.lies.ok.hc]
      omega

end Go.Proofs.Ytpmlojgngcllfaa
