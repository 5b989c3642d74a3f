/- What rbuf.Put does, in plain words. No walk in sight. -/
import Derived.Test.YtpmlojgngcllfaaRbufRead
namespace Go.Proofs.Ytpmlojgngcllfaa

/-- One byte of number x comes. -/
def RB.takes (r : RB) (W : Nat) (x : Int) : Prop := ahd r.next x < W ∧ r.has.getD (ahd r.next x).toNat false = false
instance (r : RB) (W : Nat) (x : Int) : Decidable (r.takes W x) := by unfold RB.takes; infer_instance
def RB.one (r : RB) (W : Nat) (x : Int) (c : UInt8) : RB :=
  if r.takes W x then { r with data := r.data.set (ahd r.next x).toNat c, has := r.has.set (ahd r.next x).toNat true, held := r.held + 1 } else r
/-- The first i bytes of l come, from seq on. -/
def RB.many (r : RB) (W : Nat) (seq : Int) (l : List UInt8) : Nat → RB
  | 0 => r
  | i + 1 => (r.many W seq l i).one W ((seq + i) % 4294967296) (l.getD i 0)
/-- How many are there from the first one on, within the window. -/
def lead : List Bool → Nat → Nat
  | true :: l, W + 1 => lead l W + 1
  | _, _ => 0
def RB.slide (r : RB) (n : Nat) : RB :=
  { r with next := (r.next + n) % 4294967296, ready := r.ready ++ r.data.take n, data := r.data.drop n ++ r.data.drop (r.room - n), has := r.has.drop n ++ List.replicate n false, held := r.held - n }
def RB.filled (r : RB) (seq : Int) (l : List UInt8) : RB := r.many r.win seq l (min l.length 65536)
def RB.putN (r : RB) (seq : Int) (l : List UInt8) : Nat := lead (r.filled seq l).has r.win
def RB.put (r : RB) (seq : Int) (l : List UInt8) : RB := (r.filled seq l).slide (r.putN seq l)

theorem count_set_true {l : List Bool} {k : Nat} (hk : k < l.length) (h : l.getD k false = false) : (l.set k true).count true = l.count true + 1 := by
  induction l generalizing k with
  | nil => simp at hk
  | cons a l ih =>
    cases k with
    | zero =>
      have ha : a = false := by simpa using h
      subst ha
      simp
    | succ k =>
      have := ih (k := k) (by simpa using hk) (by simpa using h)
      simp only [List.set_cons_succ, List.count_cons, this]
      omega

theorem RB.takes_lt {r : RB} (_h : r.Ok) {W : Nat} (hW : W ≤ r.room) {x : Int} (ht : r.takes W x) : (ahd r.next x).toNat < r.room := by
  have := ht.1
  have := (ahd_bd r.next x).1
  omega
theorem RB.Ok.one {r : RB} (h : r.Ok) {W : Nat} (hW : W ≤ r.room) (x : Int) (c : UInt8) : (r.one W x c).Ok := by
  unfold RB.one
  split
  · rename_i ht
    have hlt := RB.takes_lt h hW ht
    obtain ⟨r1, r2, n1, n2, rl, dl, hl, hc⟩ := h
    refine ⟨r1, r2, n1, n2, rl, by simpa using dl, by simpa using hl, ?_⟩
    show r.held + 1 = (((r.has.set _ true).count true : Nat) : Int)
    rw [count_set_true (by omega) ht.2, hc]
    omega
  · exact h
theorem RB.one_room (r : RB) (W : Nat) (x : Int) (c : UInt8) : (r.one W x c).room = r.room ∧ (r.one W x c).next = r.next ∧ (r.one W x c).ready = r.ready := by
  unfold RB.one
  split <;> exact ⟨rfl, rfl, rfl⟩
theorem RB.many_room (r : RB) (W : Nat) (seq : Int) (l : List UInt8) : ∀ i, (r.many W seq l i).room = r.room ∧ (r.many W seq l i).next = r.next ∧ (r.many W seq l i).ready = r.ready
  | 0 => ⟨rfl, rfl, rfl⟩
  | i + 1 => by
    obtain ⟨a, b, c⟩ := RB.many_room r W seq l i
    obtain ⟨a', b', c'⟩ := RB.one_room (r.many W seq l i) W ((seq + i) % 4294967296) (l.getD i 0)
    exact ⟨a'.trans a, b'.trans b, c'.trans c⟩
theorem RB.Ok.many {r : RB} (h : r.Ok) {W : Nat} (hW : W ≤ r.room) (seq : Int) (l : List UInt8) : ∀ i, (r.many W seq l i).Ok
  | 0 => h
  | i + 1 => (RB.Ok.many h hW seq l i).one (by rw [(RB.many_room r W seq l i).1]; exact hW) _ _

theorem lead_le : ∀ (l : List Bool) (W : Nat), lead l W ≤ W ∧ lead l W ≤ l.length ∧ lead l W ≤ l.count true
  | [], _ => ⟨Nat.zero_le _, Nat.zero_le _, Nat.zero_le _⟩
  | false :: l, _ => ⟨Nat.zero_le _, Nat.zero_le _, Nat.zero_le _⟩
  | true :: l, 0 => ⟨Nat.zero_le _, Nat.zero_le _, Nat.zero_le _⟩
  | true :: l, W + 1 => by
    obtain ⟨a, b, c⟩ := lead_le l W
    refine ⟨Nat.succ_le_succ a, Nat.succ_le_succ b, ?_⟩
    show lead l W + 1 ≤ _
    rw [List.count_cons_self]
    omega
theorem lead_get : ∀ (l : List Bool) (W j : Nat), j < lead l W → l[j]? = some true
  | [], _, _, h => by simp [lead] at h
  | false :: l, _, _, h => by simp [lead] at h
  | true :: l, 0, _, h => by simp [lead] at h
  | true :: l, W + 1, 0, _ => rfl
  | true :: l, W + 1, j + 1, h => by
    have h' : j + 1 < lead l W + 1 := h
    rw [List.getElem?_cons_succ]
    exact lead_get l W j (by omega)
theorem lead_stop : ∀ (l : List Bool) (W : Nat), lead l W < W → lead l W < l.length → l[lead l W]? = some false
  | [], _, _, h => by simp [lead] at h
  | false :: l, _, _, _ => rfl
  | true :: l, 0, h, _ => by simp [lead] at h
  | true :: l, W + 1, h, h2 => by
    have h' : lead l W + 1 < W + 1 := h
    have h2' : lead l W + 1 < l.length + 1 := h2
    show (true :: l)[lead l W + 1]? = _
    rw [List.getElem?_cons_succ]
    exact lead_stop l W (by omega) (by omega)

theorem take_all_true : ∀ (l : List Bool) (n : Nat), n ≤ l.length → (∀ j, j < n → l[j]? = some true) → (l.take n).count true = n
  | _, 0, _, _ => by simp
  | [], n + 1, h, _ => by simp at h
  | a :: l, n + 1, h, ht => by
    have ha : a = true := by simpa using ht 0 (by omega)
    subst ha
    rw [List.take_succ_cons, List.count_cons_self, take_all_true l n (by simpa using h) (fun j hj => by simpa using ht (j + 1) (by omega))]

theorem RB.Ok.slide {r : RB} (h : r.Ok) {W : Nat} (hW : W = r.win) : (r.slide (lead r.has W)).Ok := by
  obtain ⟨a, b, c⟩ := lead_le r.has W
  have hall := take_all_true r.has (lead r.has W) b (fun j hj => lead_get r.has W j hj)
  obtain ⟨r1, r2, n1, n2, rl, dl, hl, hc⟩ := h
  generalize lead r.has W = n at *
  have hsplit : r.has.count true = (r.has.take n).count true + (r.has.drop n).count true := by
    rw [← List.count_append, List.take_append_drop]
  refine ⟨r1, r2, by show 0 ≤ (r.next + (n : Int)) % 4294967296; omega, by show (r.next + (n : Int)) % 4294967296 < 4294967296; omega, ?_, ?_, ?_, ?_⟩
  · show (r.ready ++ r.data.take n).length ≤ r.room
    rw [List.length_append, List.length_take]
    unfold RB.win at hW
    omega
  · show (r.data.drop n ++ r.data.drop (r.room - n)).length = r.room
    rw [List.length_append, List.length_drop, List.length_drop]
    omega
  · show (r.has.drop n ++ List.replicate n false).length = r.room
    rw [List.length_append, List.length_drop, List.length_replicate]
    omega
  · show r.held - (n : Int) = (((r.has.drop n ++ List.replicate n false).count true : Nat) : Int)
    have h0 : (List.replicate n false).count true = 0 := by simp [List.count_replicate]
    rw [List.count_append, h0, hc, hsplit, hall]
    omega

theorem RB.Ok.filled {r : RB} (h : r.Ok) (seq : Int) (l : List UInt8) : (r.filled seq l).Ok := h.many (by unfold RB.win; omega) seq l _
theorem RB.filled_win (r : RB) (seq : Int) (l : List UInt8) : (r.filled seq l).win = r.win := by
  obtain ⟨a, _, c⟩ := RB.many_room r r.win seq l (min l.length 65536)
  unfold RB.win RB.filled
  rw [a, c]
theorem RB.Ok.put {r : RB} (h : r.Ok) (seq : Int) (l : List UInt8) : (r.put seq l).Ok := (h.filled seq l).slide (RB.filled_win r seq l).symm
theorem RB.putN_le (r : RB) (seq : Int) (l : List UInt8) : r.putN seq l ≤ r.win := (lead_le _ _).1

end Go.Proofs.Ytpmlojgngcllfaa
