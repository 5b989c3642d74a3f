/- What stays true of a connection, whatever its numbers: the twin of ConnInv. What stays true of a connection whatever is done to it, in plain words. No walk in sight. -/
import Derived.Test.YtpmlojgngcllfaaConnOut
import Derived.Test.YtpmlojgngcllfaaConnTick
import Derived.Test.YtpmlojgngcllfaaConnUser
namespace Go.Proofs.Ytpmlojgngcllfaa
open Go.RowKit Go
set_option linter.unusedVariables false

/-- T bytes came at most, A ticks went at most. -/
structure CN.Fre (T A : Int) (c : CN) : Prop where
  n0 : True
  n1 : 0 ≤ T
  rs : c.state ≠ 9 → c.reset = false
  tr : c.state ≠ 9 → c.tries ≤ c.o.tries
  lin : c.state = 6 → 1 ≤ c.lingers
  lo : 1 ≤ c.o.linger
  ot : 0 ≤ c.o.tries
  a0 : 0 ≤ c.age
  a1 : c.age ≤ A
  sb : c.sb.Ok
  rb : c.rb.Ok

section
variable {T A : Int} {c : CN}
theorem CN.Fre.say (h : c.Fre T A) (a b d : Int) (l : List UInt8) : (c.say a b d l).Fre T A := ⟨h.n0, h.n1, h.rs, h.tr, h.lin, h.lo, h.ot, h.a0, h.a1, h.sb, h.rb⟩
theorem CN.Fre.tell (h : c.Fre T A) : c.tell.Fre T A := h.say _ _ _ _
theorem CN.Fre.hello (h : c.Fre T A) : c.hello.Fre T A := h.say _ _ _ _
theorem CN.Fre.run (h : c.Fre T A) : c.run.Fre T A := ⟨h.n0, h.n1, h.rs, h.tr, h.lin, h.lo, h.ot, h.a0, h.a1, h.sb, h.rb⟩
theorem CN.Fre.measure (h : c.Fre T A) : c.measure.Fre T A := ⟨h.n0, h.n1, h.rs, h.tr, h.lin, h.lo, h.ot, Int.le_refl 0, Int.le_trans h.a0 h.a1, h.sb, h.rb⟩
theorem CN.Fre.finish (h : c.Fre T A) (r : Bool) : (c.finish r).Fre T A :=
  ⟨h.n0, h.n1, fun hn => absurd rfl hn, fun hn => absurd rfl hn, fun (e : (9 : Int) = 6) => absurd e (by decide), h.lo, h.ot, h.a0, h.a1, h.sb, h.rb⟩
theorem CN.Fre.went (h : c.Fre T A) : c.went.Fre T A := by
  unfold CN.went
  split
  · have h2 : CN.Fre T A { c with top := c.nxt } := ⟨h.n0, h.n1, h.rs, h.tr, h.lin, h.lo, h.ot, h.a0, h.a1, h.sb, h.rb⟩
    split
    · exact h2
    · exact h2.measure
  · exact h
theorem CN.Fre.sent (h : c.Fre T A) (n : Int) : (c.sent n).Fre T A := by
  unfold CN.sent
  split <;> exact ⟨h.n0, h.n1, h.rs, h.tr, h.lin, h.lo, h.ot, h.a0, h.a1, h.sb, h.rb⟩
theorem CN.Fre.piece (h : c.Fre T A) (n : Int) : (c.piece n).Fre T A := by
  unfold CN.piece
  split
  · exact (h.sent n).went
  · exact h
theorem CN.Fre.runs (h : c.Fre T A) : c.runs.Fre T A := by
  unfold CN.runs
  split
  · exact h.run
  · exact h
theorem CN.Fre.idles (h : c.Fre T A) : c.idles.Fre T A := by
  unfold CN.idles
  split
  · exact h.run
  · exact h
theorem CN.Fre.pour : ∀ (k : Nat) {c : CN}, c.Fre T A → (CN.pour k c).Fre T A
  | 0, _, h => h
  | k + 1, c, h => by
    unfold CN.pour
    split
    · exact CN.Fre.pour k (h.piece _).runs
    · exact h
theorem CN.Fre.flush (h : c.Fre T A) : c.flush.Fre T A := by
  unfold CN.flush
  split
  · exact (CN.Fre.pour _ h).idles
  · exact h
theorem CN.Fre.answers (h : c.Fre T A) (s : Sg) : (c.answers s).2.Fre T A := by
  unfold CN.answers
  split
  · rename_i h1
    split
    · refine ⟨h.n0, h.n1, fun _ => h.rs (by omega), fun _ => h.tr (by omega), fun e => ?_, h.lo, h.ot, h.a0, h.a1, h.sb, h.rb⟩
      have e' : (if c.closed = true then (3 : Int) else 2) = 6 := e
      split at e' <;> omega
    · exact ⟨h.n0, h.n1, h.rs, h.tr, h.lin, h.lo, h.ot, h.a0, h.a1, h.sb, h.rb⟩
  · split
    · exact h
    · split
      · exact h.tell
      · exact h
theorem CN.Fre.counts (h : c.Fre T A) (s : Sg) : (c.counts s).2.Fre T A := by
  unfold CN.counts
  split
  · split
    · exact h.finish _
    · split
      · exact h.tell
      · split
        · exact h.answers s
        · exact h
  · split
    · exact h
    · exact h.tell
theorem CN.Fre.covers (h : c.Fre T A) {a : Int} (a0 : 0 ≤ a) (a1 : a < 4294967296) : (c.covers a).Fre T A := by
  have h1 : (c.cov1 a).Fre T A := by
    unfold CN.cov1
    split
    · exact ⟨h.n0, h.n1, h.rs, h.tr, h.lin, h.lo, h.ot, h.a0, h.a1, h.sb.ack (by unfold M32; omega) (by unfold M32; omega), h.rb⟩
    · exact ⟨h.n0, h.n1, h.rs, h.tr, h.lin, h.lo, h.ot, h.a0, h.a1, h.sb.ack a0 a1, h.rb⟩
  have h2 : ∀ d : CN, d.Fre T A → d.cov2.Fre T A := fun d h => by
    unfold CN.cov2
    split
    · exact ⟨h.n0, h.n1, h.rs, h.tr, h.lin, h.lo, h.ot, h.a0, h.a1, h.sb, h.rb⟩
    · exact h
  have h3 : ∀ d : CN, d.Fre T A → d.cov3.Fre T A := fun d h => by
    unfold CN.cov3
    split
    · exact ⟨h.n0, h.n1, h.rs, h.tr, h.lin, h.lo, h.ot, h.a0, h.a1, h.sb, h.rb⟩
    · exact h
  have h4 : ∀ d : CN, d.Fre T A → d.cov4.Fre T A := fun d h => by
    unfold CN.cov4
    split <;> exact ⟨h.n0, h.n1, h.rs, fun _ => h.ot, h.lin, h.lo, h.ot, h.a0, h.a1, h.sb, h.rb⟩
  unfold CN.covers
  split
  · exact h4 _ (h3 _ (h2 _ h1))
  · exact h
theorem CN.Fre.opens (h : c.Fre T A) (s : Sg) : (c.opens s).Fre T A := by
  unfold CN.opens
  split
  · exact ⟨h.n0, h.n1, h.rs, h.tr, h.lin, h.lo, h.ot, h.a0, h.a1, h.sb, h.rb⟩
  · exact h
theorem CN.Fre.turn (h : c.Fre T A) {a : Int} (ha : a ≠ 9) (b : Int) : (c.turn a b).Fre T A := by
  unfold CN.turn
  split
  · split
    · exact h.finish _
    · split
      · exact ⟨h.n0, h.n1, fun _ => h.rs (by omega), fun _ => h.tr (by omega), fun _ => h.lo, h.lo, h.ot, h.a0, h.a1, h.sb, h.rb⟩
      · rename_i h6
        exact ⟨h.n0, h.n1, fun _ => h.rs (by omega), fun _ => h.tr (by omega), fun e => absurd e h6, h.lo, h.ot, h.a0, h.a1, h.sb, h.rb⟩
  · exact h
theorem CN.Fre.acks (h : c.Fre T A) : c.acks.Fre T A := by
  unfold CN.acks
  split
  · exact ((h.turn (by decide) _).turn (by decide) _).turn (by decide) _
  · exact h

theorem CN.Fre.takes {s : Sg} (h : c.Fre T A) (hT : T + s.data.length ≤ 1000000) : (c.takes s).Fre (T + s.data.length) A := by
  have h1 : (c.takes1 s).Fre (T + s.data.length) A := by
    unfold CN.takes1
    split
    · exact ⟨trivial, by have := h.n1; omega, h.rs, h.tr, h.lin, h.lo, h.ot, h.a0, h.a1, h.sb, h.rb.put _ _⟩
    · exact ⟨h.n0, by have := h.n1; omega, h.rs, h.tr, h.lin, h.lo, h.ot, h.a0, h.a1, h.sb, h.rb⟩
  unfold CN.takes
  split
  · have h2 : ∀ d : CN, d.Fre (T + s.data.length) A → (d.takes2 s).Fre (T + s.data.length) A := fun d h => by
      unfold CN.takes2
      split
      · have h3 : CN.Fre (T + s.data.length) A { d with eof := true } := ⟨h.n0, h.n1, h.rs, h.tr, h.lin, h.lo, h.ot, h.a0, h.a1, h.sb, h.rb⟩
        exact ((h3.turn (by decide) _).turn (by decide) _).turn (by decide) _
      · exact h
    have h3 := h2 _ h1
    unfold CN.takes3
    split
    · exact ⟨h3.n0, h3.n1, h3.rs, h3.tr, fun _ => h3.lo, h3.lo, h3.ot, h3.a0, h3.a1, h3.sb, h3.rb⟩
    · exact h3
  · exact h1
theorem CN.Fre.more {T' A' : Int} (h : c.Fre T A) (hT : T ≤ T') (hA : A ≤ A') : c.Fre T' A' := ⟨h.n0, Int.le_trans h.n1 hT, h.rs, h.tr, h.lin, h.lo, h.ot, h.a0, Int.le_trans h.a1 hA, h.sb, h.rb⟩
theorem CN.Fre.inn2 {s : Sg} (h : c.Fre T A) (hs : s.Ok) (hT : T + s.data.length ≤ 1000000) : (c.inn2 s).Fre (T + s.data.length) A := by
  have h1 := (((h.covers hs.a0 hs.a1).opens s).acks).takes (s := s) hT
  unfold CN.inn2
  show (CN.echo _ s _).Fre _ _
  unfold CN.echo
  split
  · exact h1.flush.tell
  · exact h1.flush
theorem CN.Fre.inn {s : Sg} (h : c.Fre T A) (hs : s.Ok) (hT : T + s.data.length ≤ 1000000) : (c.inn s).Fre (T + s.data.length) A := by
  unfold CN.inn
  split
  · exact h.more (by omega) (Int.le_refl _)
  · split
    · exact (h.counts s).inn2 hs hT
    · exact (h.counts s).more (by omega) (Int.le_refl _)

theorem CN.Fre.longer (h : c.Fre T A) : c.longer.Fre T A := ⟨h.n0, h.n1, h.rs, h.tr, h.lin, h.lo, h.ot, h.a0, h.a1, h.sb, h.rb⟩
theorem CN.again3 {c : CN} (h1 : c.state ≠ 1) (hu : c.una ≠ c.top) : ∃ d : CN, (d = if 0 < c.window then { c with tries := c.tries + 1 } else c) ∧
    c.again = if d.o.tries < d.tries then (d.say d.top 20 0 []).finish true else (CN.piece { d with nxt := d.una, measures := false } (max d.window 1)).longer :=
  ⟨_, rfl, by unfold CN.again; rw [if_neg h1, if_neg hu]⟩
theorem CN.Fre.again (h : c.Fre T A) : c.again.Fre T A := by
  by_cases h1 : c.state = 1
  · unfold CN.again
    rw [if_pos h1]
    split
    · exact ⟨h.n0, h.n1, fun hn => absurd rfl hn, fun hn => absurd rfl hn, fun (e : (9 : Int) = 6) => absurd e (by decide), h.lo, h.ot, h.a0, h.a1, h.sb, h.rb⟩
    · have h2 : CN.Fre T A { c with tries := c.tries + 1, measures := false } := ⟨h.n0, h.n1, h.rs, fun _ => by show c.tries + 1 ≤ c.o.tries; omega, h.lin, h.lo, h.ot, h.a0, h.a1, h.sb, h.rb⟩
      exact h2.longer.hello
  · by_cases hu : c.una = c.top
    · unfold CN.again
      rw [if_neg h1, if_pos hu]
      exact (h.say _ _ _ _).longer
    · obtain ⟨d, hd, he⟩ := CN.again3 h1 hu
      rw [he]
      have hsame : d.rb = c.rb ∧ d.state = c.state ∧ d.reset = c.reset ∧ d.o = c.o ∧ d.lingers = c.lingers ∧ d.age = c.age ∧ d.sb = c.sb := by
        rw [hd]
        split <;> exact ⟨rfl, rfl, rfl, rfl, rfl, rfl, rfl⟩
      obtain ⟨e1, e2, e3, e4, e5, e6, e7⟩ := hsame
      split
      · exact ⟨trivial, h.n1, fun hn => absurd rfl hn, fun hn => absurd rfl hn, fun (e : (9 : Int) = 6) => absurd e (by decide), by show 1 ≤ d.o.linger; rw [e4]; exact h.lo, by show 0 ≤ d.o.tries; rw [e4]; exact h.ot, by show 0 ≤ d.age; rw [e6]; exact h.a0, by show d.age ≤ A; rw [e6]; exact h.a1, by show d.sb.Ok; rw [e7]; exact h.sb, by show d.rb.Ok; rw [e1]; exact h.rb⟩
      · rename_i ht
        exact CN.Fre.longer (CN.Fre.piece ⟨trivial, h.n1, fun hn => by show d.reset = false; rw [e3]; exact h.rs (e2 ▸ hn), fun _ => by show d.tries ≤ d.o.tries; omega, fun e => by show 1 ≤ d.lingers; rw [e5]; exact h.lin (e2 ▸ e), by show 1 ≤ d.o.linger; rw [e4]; exact h.lo, by show 0 ≤ d.o.tries; rw [e4]; exact h.ot, by show 0 ≤ d.age; rw [e6]; exact h.a0, by show d.age ≤ A; rw [e6]; exact h.a1, by show d.sb.Ok; rw [e7]; exact h.sb, by show d.rb.Ok; rw [e1]; exact h.rb⟩ _)
theorem CN.Fre.tick (h : c.Fre T A) : c.tick.Fre T (A + 1) := by
  have hm := h.more (Int.le_refl T) (show A ≤ A + 1 by omega)
  have h1 : c.tick1.Fre T (A + 1) := by
    unfold CN.tick1
    split
    · exact ⟨h.n0, h.n1, h.rs, h.tr, h.lin, h.lo, h.ot, by have := h.a0; show 0 ≤ c.age + 1; omega, by have := h.a1; show c.age + 1 ≤ A + 1; omega, h.sb, h.rb⟩
    · exact hm
  have h2 : ∀ d : CN, d.Fre T (A + 1) → d.tick2.Fre T (A + 1) := fun d h => by
    unfold CN.tick2
    split
    · split
      · exact CN.Fre.again ⟨h.n0, h.n1, h.rs, h.tr, h.lin, h.lo, h.ot, h.a0, h.a1, h.sb, h.rb⟩
      · exact ⟨h.n0, h.n1, h.rs, h.tr, h.lin, h.lo, h.ot, h.a0, h.a1, h.sb, h.rb⟩
    · exact h
  unfold CN.tick
  split
  · exact hm
  · unfold CN.tick3
    split
    · rename_i h6
      have hl := h1.lin h6
      split
      · exact ⟨h1.n0, h1.n1, fun hn => absurd rfl hn, fun hn => absurd rfl hn, fun (e : (9 : Int) = 6) => absurd e (by decide), h1.lo, h1.ot, h1.a0, h1.a1, h1.sb, h1.rb⟩
      · rename_i h7
        exact h2 _ ⟨h1.n0, h1.n1, h1.rs, h1.tr, fun _ => by show 1 ≤ c.tick1.lingers - 1; omega, h1.lo, h1.ot, h1.a0, h1.a1, h1.sb, h1.rb⟩
    · exact h2 _ h1
theorem CN.Fre.write (h : c.Fre T A) (l : List UInt8) : (c.write l).Fre T A := by
  unfold CN.write
  split
  · exact CN.Fre.flush ⟨h.n0, h.n1, h.rs, h.tr, h.lin, h.lo, h.ot, h.a0, h.a1, h.sb.write l, h.rb⟩
  · exact h
theorem CN.Fre.close (h : c.Fre T A) : c.close.Fre T A := by
  unfold CN.close
  split
  · have h3 : CN.Fre T A { c with closed := true } := ⟨h.n0, h.n1, h.rs, h.tr, h.lin, h.lo, h.ot, h.a0, h.a1, h.sb, h.rb⟩
    exact ((h3.turn (by decide) _).turn (by decide) _).flush
  · exact h
theorem CN.Fre.read1 (h : c.Fre T A) (n : Int) : (c.read1 n).Fre T A := ⟨h.n0, h.n1, h.rs, h.tr, h.lin, h.lo, h.ot, h.a0, h.a1, h.sb, h.rb.read n⟩
theorem CN.Fre.read (h : c.Fre T A) (n : Int) : (c.read n).Fre T A := by
  unfold CN.read
  split
  · exact (h.read1 n).tell
  · exact h.read1 n
theorem CN.Fre.drain (h : c.Fre T A) : c.drain.Fre T A := ⟨h.n0, h.n1, h.rs, h.tr, h.lin, h.lo, h.ot, h.a0, h.a1, h.sb, h.rb⟩
theorem CN.Fre.calm (h : c.Fre T A) (hA : A ≤ 1000000) : c.Calm := ⟨h.tr, h.lin, h.a0, Int.le_trans h.a1 hA⟩

/-! ### How many segments are out -/
theorem CN.fuel_le' {c : CN} (h : c.sb.Ok) : c.fuel ≤ 2049 := by
  have h1 := h.l1
  have h2 := h.r2
  unfold CN.fuel
  split <;> omega
theorem CN.flush_out' {c : CN} (h : c.sb.Ok) : c.flush.out.length ≤ c.out.length + 2049 := by
  have h1 := CN.fuel_le' h
  have h2 := CN.pour_out c.fuel c
  unfold CN.flush
  split
  · rw [CN.idles_out]
    omega
  · omega
theorem CN.Fre.inn_out {s : Sg} (h : c.Fre T A) (hs : s.Ok) (hT : T + s.data.length ≤ 1000000) : (c.inn s).out.length ≤ c.out.length + 2051 := by
  have h1 := c.counts_out s
  have h2 := ((((h.counts s).covers hs.a0 hs.a1).opens s).acks).takes (s := s) hT
  have h3 := CN.flush_out' h2.sb
  have h4 : (((((c.counts s).2.covers s.ack).opens s).acks).takes s).out.length = (c.counts s).2.out.length := by rw [CN.takes_out, CN.acks_out, CN.opens_out, CN.covers_out]
  unfold CN.inn
  split
  · omega
  · split
    · unfold CN.inn2
      show (CN.echo _ s _).out.length ≤ _
      unfold CN.echo
      split
      · rw [CN.tell_out]
        omega
      · omega
    · omega
theorem CN.piece_out' (c : CN) (n : Int) : (c.piece n).out.length ≤ c.out.length + 1 := by
  unfold CN.piece
  split
  · rw [(CN.went_same _).2.2.1, CN.sent_out]
    exact Nat.le_refl _
  · omega
theorem CN.again_out (c : CN) : c.again.out.length ≤ c.out.length + 1 := by
  by_cases h1 : c.state = 1
  · unfold CN.again
    rw [if_pos h1]
    split
    · exact Nat.le_succ _
    · exact Nat.le_of_eq (CN.say_out _ _ _ _ _)
  · by_cases hu : c.una = c.top
    · unfold CN.again
      rw [if_neg h1, if_pos hu]
      exact Nat.le_of_eq (CN.say_out _ _ _ _ _)
    · obtain ⟨d, hd, he⟩ := CN.again3 h1 hu
      rw [he]
      have e1 : d.out = c.out := by rw [hd]; split <;> rfl
      rw [← e1]
      split
      · exact Nat.le_of_eq (CN.say_out _ _ _ _ _)
      · exact CN.piece_out' _ _
theorem CN.tick_out (c : CN) : c.tick.out.length ≤ c.out.length + 1 := by
  have h1 : c.tick1.out = c.out := by unfold CN.tick1; split <;> rfl
  have h2 : ∀ d : CN, d.tick2.out.length ≤ d.out.length + 1 := fun d => by
    unfold CN.tick2
    split
    · split
      · exact CN.again_out _
      · exact Nat.le_succ _
    · exact Nat.le_succ _
  unfold CN.tick
  split
  · exact Nat.le_succ _
  · unfold CN.tick3
    split
    · split
      · show c.tick1.out.length ≤ _
        rw [h1]
        exact Nat.le_succ _
      · have := h2 { c.tick1 with lingers := c.tick1.lingers - 1 }
        rw [← h1]
        exact this
    · have := h2 c.tick1
      rw [h1] at this
      exact this
theorem CN.Fre.write_out (h : c.Fre T A) (l : List UInt8) : (c.write l).out.length ≤ c.out.length + 2049 := by
  unfold CN.write
  split
  · exact CN.flush_out' (c := { c with sb := c.sb.write l }) (h.sb.write l)
  · omega
theorem CN.Fre.close_out (h : c.Fre T A) : c.close.out.length ≤ c.out.length + 2049 := by
  unfold CN.close
  split
  · have h3 : CN.Fre T A { c with closed := true } := ⟨h.n0, h.n1, h.rs, h.tr, h.lin, h.lo, h.ot, h.a0, h.a1, h.sb, h.rb⟩
    have h4 := CN.flush_out' ((h3.turn (a := 2) (by decide) 3).turn (a := 7) (by decide) 8).sb
    rw [CN.turn_out, CN.turn_out] at h4
    exact h4
  · omega
theorem CN.read_out (c : CN) (n : Int) : (c.read n).out.length ≤ c.out.length + 1 := by
  unfold CN.read
  split
  · exact Nat.le_of_eq (CN.tell_out _)
  · exact Nat.le_succ _
end

end Go.Proofs.Ytpmlojgngcllfaa
