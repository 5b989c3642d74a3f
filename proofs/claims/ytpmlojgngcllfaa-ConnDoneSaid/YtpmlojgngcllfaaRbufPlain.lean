/- What lies in a buffer after a piece came, place by place. No program in sight. -/
import Derived.Test.YtpmlojgngcllfaaRbufPutSpec
import Derived.Test.YtpmlojgngcllfaaRbufNew
namespace Go.Proofs.Ytpmlojgngcllfaa

theorem ahd_at {n : Int} {s : Int} (hs : 0 ≤ s) (hs2 : s < 4294967296) {x : Int} (hx : x = (n + s) % 4294967296) : ahd n x = s := by
  unfold ahd
  omega
theorem getD_set {α : Type} (l : List α) (k p : Nat) (x d : α) (hk : k < l.length) : (l.set k x).getD p d = if k = p then x else l.getD p d := by
  rw [List.getD_eq_getElem?_getD, List.getD_eq_getElem?_getD, List.getElem?_set]
  split
  · simp
  · rfl

theorem RB.many_char {r : RB} (h : r.Ok) {W : Nat} (hW : W ≤ r.room) {seq : Int} {s : Nat} {l : List UInt8} (hs : seq = (r.next + s) % 4294967296) (hsl : s + l.length ≤ 2147483648) :
    ∀ i, i ≤ l.length → ∀ p, (r.many W seq l i).has.getD p false = (r.has.getD p false || decide (s ≤ p ∧ p < s + i ∧ p < W)) ∧
      (r.many W seq l i).data.getD p 0 = if r.has.getD p false = false ∧ s ≤ p ∧ p < s + i ∧ p < W then l.getD (p - s) 0 else r.data.getD p 0
  | 0, _, p => by
    have h1 : ¬ (s ≤ p ∧ p < s + 0 ∧ p < W) := by omega
    have h2 : ¬ (r.has.getD p false = false ∧ s ≤ p ∧ p < s + 0 ∧ p < W) := fun hh => h1 hh.2
    rw [if_neg h2, decide_eq_false h1]
    exact ⟨(Bool.or_false _).symm, rfl⟩
  | i + 1, hi, p => by
    have ih := RB.many_char h hW hs hsl i (by omega)
    have hq := RB.Ok.many h hW seq l i
    obtain ⟨e1, e2, -⟩ := RB.many_room r W seq l i
    show ((r.many W seq l i).one W ((seq + i) % 4294967296) (l.getD i 0)).has.getD p false = _ ∧ ((r.many W seq l i).one W ((seq + i) % 4294967296) (l.getD i 0)).data.getD p 0 = _
    generalize r.many W seq l i = q at *
    have ha : ahd q.next ((seq + i) % 4294967296) = ((s + i : Nat) : Int) := by
      rw [e2]
      exact ahd_at (by omega) (by omega) (by rw [hs]; omega)
    have hlen : q.has.length = r.room := by rw [hq.hl, e1]
    have hdl : q.data.length = r.room := by rw [hq.dl, e1]
    have hK := (ih (s + i)).1
    have hK2 : q.has.getD (s + i) false = r.has.getD (s + i) false := by
      rw [hK, decide_eq_false (by omega), Bool.or_false]
    unfold RB.one
    by_cases ht : q.takes W ((seq + i) % 4294967296)
    · rw [if_pos ht]
      obtain ⟨t1, t2⟩ := ht
      rw [ha] at t1 t2
      rw [Int.toNat_natCast, hK2] at t2
      have hsi : s + i < W := by omega
      show (q.has.set (ahd q.next ((seq + i) % 4294967296)).toNat true).getD p false = _ ∧ (q.data.set (ahd q.next ((seq + i) % 4294967296)).toNat (l.getD i 0)).getD p 0 = _
      rw [ha, Int.toNat_natCast, getD_set _ _ _ _ _ (by omega), getD_set _ _ _ _ _ (by omega)]
      by_cases hp : s + i = p
      · subst hp
        have c : s ≤ s + i ∧ s + i < s + (i + 1) ∧ s + i < W := by omega
        rw [if_pos rfl, if_pos rfl, decide_eq_true c, Bool.or_true, if_pos ⟨t2, c⟩, Nat.add_sub_cancel_left]
        exact ⟨rfl, rfl⟩
      · rw [if_neg hp, if_neg hp, (ih p).1, (ih p).2]
        have hc : (s ≤ p ∧ p < s + i ∧ p < W) ↔ (s ≤ p ∧ p < s + (i + 1) ∧ p < W) := by omega
        simp only [hc]
        exact ⟨trivial, trivial⟩
    · rw [if_neg ht, (ih p).1, (ih p).2]
      have ht2 : ¬ (s + i < W ∧ r.has.getD (s + i) false = false) := fun hh => ht ⟨by rw [ha]; exact Int.ofNat_lt.2 hh.1, by rw [ha, Int.toNat_natCast, hK2]; exact hh.2⟩
      by_cases hp : s + i = p
      · subst hp
        rcases hb : r.has.getD (s + i) false with _ | _
        · have hsw : ¬ s + i < W := fun hh => ht2 ⟨hh, hb⟩
          have c1 : ¬ (s ≤ s + i ∧ s + i < s + i ∧ s + i < W) := by omega
          have c2 : ¬ (s ≤ s + i ∧ s + i < s + (i + 1) ∧ s + i < W) := by omega
          simp only [c1, c2]
          exact ⟨trivial, trivial⟩
        · simp
      · have hc : (s ≤ p ∧ p < s + i ∧ p < W) ↔ (s ≤ p ∧ p < s + (i + 1) ∧ p < W) := by omega
        simp only [hc]
        exact ⟨trivial, trivial⟩

theorem getD_some {l : List Bool} {j : Nat} (h : j < l.length) : l[j]? = some (l.getD j false) := by
  rw [List.getD_eq_getElem?_getD, List.getElem?_eq_getElem h]
  rfl
theorem lead_unique {l : List Bool} {W m : Nat} (h1 : m ≤ W) (h2 : m ≤ l.length) (h3 : ∀ j, j < m → l.getD j false = true) (h4 : m < W → m < l.length → l.getD m false = false) : lead l W = m := by
  obtain ⟨a, b, -⟩ := lead_le l W
  rcases Nat.lt_trichotomy (lead l W) m with hlt | he | hgt
  · have hs := lead_stop l W (by omega) (by omega)
    have := h3 _ hlt
    rw [getD_some (by omega), this] at hs
    cases hs
  · exact he
  · have hs := lead_get l W m hgt
    have := h4 (by omega) (by omega)
    rw [getD_some (by omega), this] at hs
    cases hs
theorem count_range {l : List Bool} {s t : Nat} (hst : s ≤ t) (ht : t ≤ l.length) (h : ∀ p, p < l.length → l.getD p false = decide (s ≤ p ∧ p < t)) : l.count true = t - s := by
  have he : l = List.replicate s false ++ (List.replicate (t - s) true ++ List.replicate (l.length - t) false) := by
    apply List.ext_getElem?
    intro j
    rcases Nat.lt_or_ge j l.length with hj | hj
    · rw [getD_some hj, h j hj]
      rcases Nat.lt_or_ge j s with h1 | h1
      · rw [List.getElem?_append_left (by simpa using h1)]
        have : ¬ (s ≤ j ∧ j < t) := by omega
        simp [this, h1]
      · rw [List.getElem?_append_right (by simpa using h1), List.length_replicate]
        rcases Nat.lt_or_ge j t with h2 | h2
        · rw [List.getElem?_append_left (by simp; omega)]
          have h3 : j - s < t - s := by omega
          simp [h1, h2, h3]
        · rw [List.getElem?_append_right (by simp; omega), List.length_replicate]
          have : ¬ (s ≤ j ∧ j < t) := by omega
          have h3 : j - s - (t - s) < l.length - t := by omega
          simp [this, h3]
    · rw [List.getElem?_eq_none hj, List.getElem?_eq_none (by simp; omega)]
  rw [he]
  simp [List.count_append, List.count_replicate]

theorem RB.slide_zero {r : RB} (h : r.Ok) : r.slide 0 = r := by
  have e1 : (r.next + ((0 : Nat) : Int)) % 4294967296 = r.next := by have := h.n1; have := h.n2; omega
  have e2 : r.data.drop (r.room - 0) = [] := List.drop_eq_nil_of_le (by rw [h.dl]; omega)
  unfold RB.slide
  rw [e1, e2]
  cases r
  simp

/-- A piece that comes s from the next one on, s from one on. -/
theorem RB.put_far {r : RB} (h : r.Ok) {s : Nat} (hs1 : 1 ≤ s) (h0 : r.has.getD 0 false = false) {seq : Int} {l : List UInt8} (hs : seq = (r.next + s) % 4294967296) (hl : l.length ≤ 65536) (hs2 : s ≤ 65536) :
    (r.put seq l).Ok ∧ (r.put seq l).room = r.room ∧ (r.put seq l).next = r.next ∧ (r.put seq l).ready = r.ready ∧
    ∀ p, (r.put seq l).has.getD p false = (r.has.getD p false || decide (s ≤ p ∧ p < s + l.length ∧ p < r.win)) ∧
      (r.put seq l).data.getD p 0 = if r.has.getD p false = false ∧ s ≤ p ∧ p < s + l.length ∧ p < r.win then l.getD (p - s) 0 else r.data.getD p 0 := by
  have hw : r.win ≤ r.room := by unfold RB.win; omega
  have hch := RB.many_char h hw hs (by omega) l.length (Nat.le_refl _)
  have hok := h.filled seq l
  have hf : r.filled seq l = r.many r.win seq l l.length := by unfold RB.filled; rw [Nat.min_eq_left hl]
  have hlead : r.putN seq l = 0 := by
    refine lead_unique (Nat.zero_le _) (Nat.zero_le _) (fun j hj => by omega) (fun _ _ => ?_)
    rw [hf, (hch 0).1, h0, decide_eq_false (by omega)]
    rfl
  have hput : r.put seq l = r.many r.win seq l l.length := by
    unfold RB.put
    rw [hlead, RB.slide_zero hok, hf]
  obtain ⟨e1, e2, e3⟩ := RB.many_room r r.win seq l l.length
  refine ⟨h.put seq l, ?_⟩
  rw [hput]
  exact ⟨e1, e2, e3, hch⟩

/-- A piece that comes from the next one on. -/
theorem RB.put_near {r : RB} (h : r.Ok) {l : List UInt8} (hl : l.length ≤ 65536) {T : Nat} (hT : T ≤ r.win) (ht : ∀ p, p < T → r.has.getD p false = true ∨ p < l.length) (hstop : T < r.win → r.has.getD T false = false ∧ l.length ≤ T) :
    (r.put r.next l).ready = r.ready ++ (r.filled r.next l).data.take T ∧ r.putN r.next l = T ∧
    ∀ p, (r.filled r.next l).data.getD p 0 = if r.has.getD p false = false ∧ p < l.length ∧ p < r.win then l.getD p 0 else r.data.getD p 0 := by
  have hw : r.win ≤ r.room := by unfold RB.win; omega
  have hs : r.next = (r.next + ((0 : Nat) : Int)) % 4294967296 := by have := h.n1; have := h.n2; omega
  have hch := RB.many_char h hw hs (by omega) l.length (Nat.le_refl _)
  have hok := h.filled r.next l
  have hf : r.filled r.next l = r.many r.win r.next l l.length := by unfold RB.filled; rw [Nat.min_eq_left hl]
  have hroom : (r.filled r.next l).room = r.room := by rw [hf]; exact (RB.many_room r r.win r.next l l.length).1
  have hlead : r.putN r.next l = T := by
    refine lead_unique hT (by rw [hok.hl, hroom]; omega) (fun j hj => ?_) (fun h1 _ => ?_)
    · rw [hf, (hch j).1]
      rcases ht j hj with h1 | h1
      · rw [h1]; rfl
      · rw [decide_eq_true (by omega), Bool.or_true]
    · obtain ⟨a, b⟩ := hstop h1
      rw [hf, (hch T).1, a, decide_eq_false (by omega)]
      rfl
  refine ⟨?_, hlead, fun p => ?_⟩
  · unfold RB.put
    rw [hlead]
    show (r.filled r.next l).ready ++ _ = _
    rw [show (r.filled r.next l).ready = r.ready from by rw [hf]; exact (RB.many_room r r.win r.next l l.length).2.2]
  · have := (hch p).2
    rw [Nat.zero_add] at this
    rw [hf, this]
    have hc : (r.has.getD p false = false ∧ 0 ≤ p ∧ p < l.length ∧ p < r.win) ↔ (r.has.getD p false = false ∧ p < l.length ∧ p < r.win) := by
      constructor
      · exact fun ⟨a, _, b⟩ => ⟨a, b⟩
      · exact fun ⟨a, b⟩ => ⟨a, Nat.zero_le _, b⟩
    simp only [hc, Nat.sub_zero]

/-- The statement RbufFirst, in plain words. -/
theorem first_plain {next : Int} (n1 : 0 ≤ next) (n2 : next < 4294967296) {n k : Nat} (hk : 1 ≤ k) (hkn : k ≤ n) (hn : n ≤ 300) {a b : List UInt8} (ha : a.length ≤ 300) (hb : b.length ≤ 300) {seq : Int} (hseq : seq = (next + k) % 4294967296) :
    ((RB.start n next).put seq a).held = ((min a.length (n - k) : Nat) : Int) ∧
    (((RB.start n next).put seq a).put seq b).held = ((max (min a.length (n - k)) (min b.length (n - k)) : Nat) : Int) ∧
    ((((RB.start n next).put seq a).put seq b).put next (List.replicate k 0)).ready.length = k + max (min a.length (n - k)) (min b.length (n - k)) ∧
    (((((RB.start n next).put seq a).put seq b).put next (List.replicate k 0)).ready.drop k).take (min a.length (n - k)) = a.take (min a.length (n - k)) := by
  have ok0 : (RB.start n next).Ok := RB.start_ok (by omega) (by omega) n1 n2
  have hz : ∀ p, (RB.start n next).has.getD p false = false := fun p => by
    show (List.replicate n false).getD p false = false
    rw [List.getD_eq_getElem?_getD, List.getElem?_replicate]
    split <;> rfl
  have w0 : (RB.start n next).win = n := by show n - 0 = n; omega
  obtain ⟨ok1, r1, x1, y1, c1⟩ := RB.put_far ok0 hk (hz 0) (seq := seq) hseq (l := a) (by omega) (by omega)
  rw [w0] at c1
  generalize (RB.start n next).put seq a = q1 at *
  have x1' : q1.next = next := x1
  have r1' : q1.room = n := r1
  have y1' : q1.ready = [] := y1
  have w1 : q1.win = n := by unfold RB.win; rw [r1', y1']; rfl
  have h1 : ∀ p, q1.has.getD p false = decide (k ≤ p ∧ p < k + min a.length (n - k)) := fun p => by
    rw [(c1 p).1, hz p, Bool.false_or]
    exact decide_eq_decide.2 (by omega)
  have hc1 : q1.held = ((min a.length (n - k) : Nat) : Int) := by
    rw [ok1.hc, count_range (s := k) (t := k + min a.length (n - k)) (by omega) (by rw [ok1.hl, r1']; omega) (fun p _ => h1 p), Nat.add_sub_cancel_left]
  obtain ⟨ok2, r2, x2, y2, c2⟩ := RB.put_far ok1 hk (by rw [h1 0]; exact decide_eq_false (by omega)) (seq := seq) (by rw [x1']; exact hseq) (l := b) (by omega) (by omega)
  rw [w1] at c2
  generalize q1.put seq b = q2 at *
  have x2' : q2.next = next := x2.trans x1'
  have r2' : q2.room = n := r2.trans r1'
  have y2' : q2.ready = [] := y2.trans y1'
  have w2 : q2.win = n := by unfold RB.win; rw [r2', y2']; rfl
  have h2 : ∀ p, q2.has.getD p false = decide (k ≤ p ∧ p < k + max (min a.length (n - k)) (min b.length (n - k))) := fun p => by
    rw [(c2 p).1, h1 p, ← Bool.decide_or]
    exact decide_eq_decide.2 (by omega)
  have hc2 : q2.held = ((max (min a.length (n - k)) (min b.length (n - k)) : Nat) : Int) := by
    rw [ok2.hc, count_range (s := k) (t := k + max (min a.length (n - k)) (min b.length (n - k))) (by omega) (by rw [ok2.hl, r2']; omega) (fun p _ => h2 p), Nat.add_sub_cancel_left]
  obtain ⟨e3, -, d3⟩ := RB.put_near ok2 (l := List.replicate k 0) (by rw [List.length_replicate]; omega) (T := k + max (min a.length (n - k)) (min b.length (n - k))) (by rw [w2]; omega)
    (fun p hp => by
      rw [List.length_replicate, h2 p, decide_eq_true_iff]
      omega)
    (fun _ => ⟨by rw [h2]; exact decide_eq_false (by omega), by rw [List.length_replicate]; omega⟩)
  rw [x2'] at e3 d3
  have okf := ok2.filled next (List.replicate k 0)
  have hroomf : (q2.filled next (List.replicate k 0)).room = n := (RB.many_room q2 q2.win next _ _).1.trans r2'
  have hlenf : (q2.filled next (List.replicate k 0)).data.length = n := by rw [okf.dl, hroomf]
  generalize (q2.filled next (List.replicate k 0)).data = D at *
  refine ⟨hc1, hc2, ?_, ?_⟩
  · rw [e3, y2', List.nil_append, List.length_take, hlenf]
    omega
  · rw [e3, y2', List.nil_append]
    apply List.ext_getElem?
    intro j
    rw [List.getElem?_take, List.getElem?_take]
    split
    · rename_i hj
      rw [List.getElem?_drop, List.getElem?_take, if_pos (by omega), List.getElem?_eq_getElem (by omega), List.getElem?_eq_getElem (by omega)]
      have e := d3 (k + j)
      have hh2 : q2.has.getD (k + j) false = true := by rw [h2]; exact decide_eq_true (by omega)
      have hh1 : q1.has.getD (k + j) false = true := by rw [h1]; exact decide_eq_true (by omega)
      rw [hh2, if_neg (by simp), (c2 (k + j)).2, hh1, if_neg (by simp), (c1 (k + j)).2, hz, if_pos ⟨rfl, by omega, by omega, by omega⟩, Nat.add_sub_cancel_left, List.getD_eq_getElem?_getD, List.getD_eq_getElem?_getD, List.getElem?_eq_getElem (by omega), List.getElem?_eq_getElem (by omega)] at e
      have e' : D[k + j]'(by omega) = a[j]'(by omega) := e
      rw [e']
    · rfl

end Go.Proofs.Ytpmlojgngcllfaa
