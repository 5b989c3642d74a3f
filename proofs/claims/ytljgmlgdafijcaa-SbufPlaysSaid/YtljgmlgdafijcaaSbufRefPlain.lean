/- The buffer and the reference's list of numbered bytes: they answer alike. No walk in sight. -/
import Derived.Test.YtljgmlgdafijcaaSbufRefWrite
import Derived.Test.YtljgmlgdafijcaaSbufRefGetW
import Derived.Test.YtljgmlgdafijcaaSbufPlain
namespace Go.Proofs.Ytljgmlgdafijcaa
open Go.RowKit Go

theorem nums_mod (s : List UInt8) : ∀ e, nums (e % 4294967296) s = nums e s := by
  induction s with
  | nil => intro e; rfl
  | cons b r ih =>
    intro e
    have h : nums (e % 4294967296 + 1) r = nums (e + 1) r := by
      rw [← ih (e % 4294967296 + 1), ← ih (e + 1)]
      congr 1
      omega
    show (_, b) :: _ = (_, b) :: _
    rw [h, show e % 4294967296 % 4294967296 = e % 4294967296 from by omega]
theorem nums_drop (s : List UInt8) : ∀ (k : Nat) (e : Int), (nums e s).drop k = nums (e + (k : Nat)) (s.drop k) := by
  induction s with
  | nil => intro k e; simp [nums]
  | cons b r ih =>
    intro k e
    cases k with
    | zero => simp
    | succ k =>
      show (nums (e + 1) r).drop k = nums _ (r.drop k)
      rw [ih]
      congr 1
      omega
theorem nums_get (s : List UInt8) (e : Int) (k : Nat) (h : k < s.length) : (nums e s)[k]? = some ((e + (k : Nat)) % 4294967296, s[k]) := by
  have h1 := nums_drop s k e
  have h2 : (nums e s)[k]? = ((nums e s).drop k)[0]? := by rw [List.getElem?_drop]; simp
  rw [h2, h1, List.drop_eq_getElem_cons h]
  rfl
theorem nums_data (s : List UInt8) : ∀ e, (nums e s).map (·.2) = s := by
  induction s with
  | nil => intro e; rfl
  | cons b r ih => intro e; simp [nums, ih]
theorem nums_range {s : List UInt8} {e : Int} (j : Nat) (x : Int × UInt8) (h : (nums e s)[j]? = some x) : 0 ≤ x.1 ∧ x.1 < 4294967296 := by
  have hj : j < s.length := by
    have := (List.getElem?_eq_some_iff.1 h).1
    rwa [nums_length] at this
  rw [nums_get s e j hj] at h
  cases h
  show 0 ≤ (e + (j : Nat)) % 4294967296 ∧ (e + (j : Nat)) % 4294967296 < 4294967296
  omega

/-- The two states belong together. -/
structure SR (b : SB) (room e : Int) (l : List (Int × UInt8)) : Prop where
  ok : b.Ok
  rm : b.room = room
  small : room ≤ 300
  end_ : e = (b.una + (b.s.length : Int)) % 4294967296
  ns : l = nums b.una b.s

namespace SR
variable {b : SB} {room e : Int} {l : List (Int × UInt8)}
theorem short (h : SR b room e l) : b.s.length ≤ 300 := by have := h.ok.l1; have := h.rm; have := h.small; omega
theorem len (h : SR b room e l) : l.length = b.s.length := by rw [h.ns, nums_length]
theorem una (h : SR b room e l) : refUna e l = b.una := by
  have hu := h.ok.u1
  have hv := h.ok.u2
  rw [h.ns, h.end_]
  rcases hs : b.s with _ | ⟨x, r⟩
  · show (b.una + (([] : List UInt8).length : Int)) % 4294967296 = b.una
    simp
    omega
  · show b.una % 4294967296 = b.una
    omega
theorem e0 (h : SR b room e l) : 0 ≤ e ∧ e < 4294967296 := by rw [h.end_]; omega
theorem start (room una : Int) (h1 : 1 ≤ room) (h2 : room ≤ 300) (u1 : 0 ≤ una) (u2 : una < 4294967296) : SR (SB.mk room una []) room una [] :=
  ⟨SB.new_ok h1 (by omega) u1 u2, rfl, h2, by show una = (una + 0) % 4294967296; omega, rfl⟩
theorem write (h : SR b room e l) (xs : List UInt8) {k : Nat} (h1 : k ≤ xs.length) (h2 : k = xs.length ∨ room ≤ (l.length + k : Nat)) (h3 : k = 0 ∨ (l.length + k : Nat) ≤ room) :
    k = b.fits xs ∧ SR (b.write xs) room ((e + (k : Nat)) % 4294967296) (l ++ nums e (xs.take k)) := by
  have hl := h.len
  have hr := h.rm
  have h0 := h.ok.l1
  have hk : k = b.fits xs := by
    unfold SB.fits
    omega
  refine ⟨hk, h.ok.write xs, h.rm, h.small, ?_, ?_⟩
  · show _ = (b.una + (((b.s ++ xs.take (b.fits xs)).length : Nat) : Int)) % 4294967296
    rw [h.end_, ← hk, List.length_append, List.length_take, Nat.min_eq_left h1]
    omega
  · show _ = nums b.una (b.s ++ xs.take (b.fits xs))
    rw [nums_append, ← hk, h.ns, h.end_, nums_mod]
theorem ack (h : SR b room e l) {n : Int} (n0 : 0 ≤ n) (n1 : n < 4294967296) {l' : List (Int × UInt8)} {k : Nat} (ha : AckRef n l l' k) :
    k = b.gone n ∧ SR (b.ack n) room e l' := by
  have hs := h.short
  have hu := h.ok.u1
  have hv := h.ok.u2
  have hlen := h.len
  have hg : ∀ (j : Nat) (hj : j < b.s.length), l[j]? = some ((b.una + (j : Nat)) % 4294967296, b.s[j]) := fun j hj => by rw [h.ns]; exact nums_get _ _ _ hj
  rcases ha with ⟨rfl, rfl, hno⟩ | ⟨i, x, rfl, hx, hxn, rfl, -⟩
  · have hbd := ahd_bd b.una n
    have hout : ahd b.una n = 0 ∨ (b.s.length : Int) < ahd b.una n := by
      rcases (by omega : (b.s.length : Int) < ahd b.una n ∨ ahd b.una n ≤ (b.s.length : Int)) with h1 | h1
      · exact .inr h1
      · left
        rcases (by omega : 0 < ahd b.una n ∨ ahd b.una n ≤ 0) with h2 | h2
        · exfalso
          obtain ⟨j, hj⟩ : ∃ j : Nat, ahd b.una n = (j : Int) + 1 := ⟨(ahd b.una n).toNat - 1, by omega⟩
          have := hno j _ (hg j (by omega))
          apply this
          unfold ahd at hj
          show ((b.una + (j : Nat)) % 4294967296 + 1) % 4294967296 = n
          omega
        · omega
    have hak : b.ack n = b := by
      unfold SB.ack
      rw [if_neg (by omega)]
    refine ⟨?_, by rw [hak]; exact h⟩
    unfold SB.gone
    rcases hout with h1 | h1
    · rw [h1]; split <;> rfl
    · rw [if_neg (by omega)]
  · have hi : i < b.s.length := by
      have := (List.getElem?_eq_some_iff.1 hx).1
      omega
    rw [hg i hi] at hx
    cases hx
    have hah : ahd b.una n = (i : Int) + 1 := by
      unfold ahd
      have : ((b.una + (i : Nat)) % 4294967296 + 1) % 4294967296 = n := hxn
      omega
    have hak : b.ack n = { b with s := b.s.drop (i + 1), una := n } := by
      unfold SB.ack
      rw [if_pos (by omega), hah]
      rfl
    have hok := h.ok.ack n0 n1
    refine ⟨?_, hok, ?_, h.small, ?_, ?_⟩
    · unfold SB.gone
      rw [if_pos (by omega), hah]
      omega
    · rw [hak]; exact h.rm
    · rw [hak]
      show e = (n + (((b.s.drop (i + 1)).length : Nat) : Int)) % 4294967296
      rw [h.end_, List.length_drop]
      unfold ahd at hah
      omega
    · rw [hak]
      show l.drop (i + 1) = nums n (b.s.drop (i + 1))
      rw [h.ns, nums_drop, ← nums_mod, ← nums_mod _ n]
      congr 1
      unfold ahd at hah
      omega
end SR
theorem rgetOut_none (seq m : Int) (s : List UInt8) : ∀ (e : Int) (S : List UInt8), (s.length : Int) ≤ ahd e seq → rgetOut seq m (nums e s) S = S := by
  induction s with
  | nil => intro e S _; rfl
  | cons b r ih =>
    intro e S h
    have hl : ((b :: r).length : Int) = (r.length : Int) + 1 := by simp
    have h1 : ¬ e % 4294967296 = seq := by unfold ahd at h; omega
    show (if e % 4294967296 = seq then _ else rgetOut seq m (nums (e + 1) r) S) = S
    rw [if_neg h1]
    exact ih _ _ (by unfold ahd at h ⊢; omega)
theorem rgetOut_some (seq m : Int) (hs0 : 0 ≤ seq) (hs1 : seq < 4294967296) (s : List UInt8) : ∀ (e : Int) (S : List UInt8), s.length ≤ 4294967295 → ahd e seq < s.length →
    rgetOut seq m (nums e s) S = rgetIn m ((nums e s).drop (ahd e seq).toNat) S := by
  induction s with
  | nil => intro e S _ h; simp at h; have := ahd_bd e seq; omega
  | cons b r ih =>
    intro e S hl0 h
    have hl : ((b :: r).length : Int) = (r.length : Int) + 1 := by simp
    have hb := ahd_bd e seq
    by_cases h1 : e % 4294967296 = seq
    · have h0 : ahd e seq = 0 := by unfold ahd; omega
      show (if e % 4294967296 = seq then rgetOut seq m (nums (e + 1) r) (rgetIn m (nums e (b :: r)) S) else _) = _
      rw [if_pos h1, h0, rgetOut_none _ _ _ _ _ (by simp at hl0; unfold ahd at h0 ⊢; omega)]
      rfl
    · have h2 : ahd (e + 1) seq = ahd e seq - 1 := by unfold ahd at h ⊢; omega
      have h3 : ahd e seq ≠ 0 := by unfold ahd; omega
      show (if e % 4294967296 = seq then _ else rgetOut seq m (nums (e + 1) r) S) = _
      rw [if_neg h1, ih _ _ (by simp at hl0; omega) (by omega), h2]
      have h4 : (ahd e seq).toNat = (ahd e seq - 1).toNat + 1 := by omega
      rw [h4]
      rfl
theorem SR.get {b : SB} {room e : Int} {l : List (Int × UInt8)} (h : SR b room e l) {seq : Int} (m : Int) (hs0 : 0 ≤ seq) (hs1 : seq < 4294967296) : rgetOut seq m l [] = b.get seq m := by
  have hs := h.short
  have hb := ahd_bd b.una seq
  rw [h.ns]
  unfold SB.get
  by_cases h1 : (b.s.length : Int) ≤ ahd b.una seq
  · rw [if_pos (.inr h1), rgetOut_none _ _ _ _ _ h1]
  · rw [rgetOut_some seq m hs0 hs1 _ _ _ (by omega) (by omega), rgetIn_eq, nums_drop, nums_data]
    by_cases h2 : m < 1
    · rw [if_pos (.inl h2)]
      have : (m - (([] : List UInt8).length : Int)).toNat = 0 := by simp; omega
      rw [this]
      simp
    · rw [if_neg (by omega)]
      simp
end Go.Proofs.Ytljgmlgdafijcaa
