/- How the buffer and the reference stand beside each other in memory. -/
import Derived.Test.YtjfamjaebehieaaRbufRefPlain
import Derived.Test.YtjfamjaebehieaaRbufRefPut
import Derived.Test.YtjfamjaebehieaaRbufRefRead
import Derived.Test.YtjfamjaebehieaaRbufGreat
namespace Go.Proofs.Ytjfamjaebehieaa
open Go.RowKit Go

structure PQ (w wr : World) (B G1 G2 gd gh : Nat) (rv : Value) (r : RB) (v : Value) (h : List (Int × UInt8)) : Prop where
  frm : Frm [] w wr
  rb : RbIn wr B G1 gd gh rv r
  rf : Blk wr G2 39 (refC (r.room : Int) r.next r.ready v)
  own : Own w.heap.size wr v h
  rr : RR r h
  small : r.room ≤ 300
  bs : w.heap.size ≤ B ∧ B ≤ wr.heap.size ∧ B ≤ G1 ∧ B ≤ gd ∧ B ≤ gh ∧ w.heap.size ≤ G2
theorem PQ.frm_ {w wr w' : World} {B G1 G2 gd gh : Nat} {rv v : Value} {r : RB} {h : List (Int × UInt8)} (q : PQ w wr B G1 G2 gd gh rv r v h) (hf : Frm [] wr w') : PQ w w' B G1 G2 gd gh rv r v h :=
  ⟨q.frm.next0 hf, q.rb.frm hf (by simp) (by simp) (by simp) (by simp), q.rf.frm hf (by simp), q.own.frm hf, q.rr, q.small, ⟨q.bs.1, Nat.le_trans q.bs.2.1 hf.size, q.bs.2.2⟩⟩
theorem PQ.hlen {w wr : World} {B G1 G2 gd gh : Nat} {rv v : Value} {r : RB} {h : List (Int × UInt8)} (q : PQ w wr B G1 G2 gd gh rv r v h) : h.length ≤ 300 ∧ r.ready.length ≤ 300 ∧ r.held = (h.length : Int) ∧ ((r.room : Int) - r.ready.length) = (r.win : Int) := by
  have h1 := q.rr.hr.held
  have h2 := q.rr.ok.hc
  have h3 := List.count_le_length (a := true) (l := r.has)
  have h4 := q.rr.ok.hl
  have h5 := q.small
  have h6 := q.rr.ok.rl
  refine ⟨by omega, by omega, h1, ?_⟩
  unfold RB.win
  omega
theorem PQ.rules {w wr : World} {B G1 G2 gd gh : Nat} {rv v : Value} {r : RB} {h : List (Int × UInt8)} (q : PQ w wr B G1 G2 gd gh rv r v h) :
    wr.cell? ⟨G2, 0, none⟩ = some (.int .i64 (r.room : Int)) ∧ wr.cell? ⟨G2, 1, none⟩ = some (.int .u32 r.next) ∧ wr.cell? ⟨G2, 2, none⟩ = some (.string ⟨r.ready.toArray⟩) ∧ wr.cell? ⟨G2, 3, none⟩ = some v ∧
    wr.frozen? ⟨G2, 0, none⟩ = false ∧ wr.frozen? ⟨G2, 1, none⟩ = false ∧ wr.frozen? ⟨G2, 2, none⟩ = false ∧ wr.frozen? ⟨G2, 3, none⟩ = false ∧ G2 < wr.heap.size :=
  ⟨q.rf.cell 0, q.rf.cell 1, q.rf.cell 2, q.rf.cell 3, q.rf.frozen 0, q.rf.frozen 1, q.rf.frozen 2, q.rf.frozen 3, q.rf.lt⟩
theorem own_blk {w : World} {base n : Nat} {e : TypeId} {size : Nat} {v : Value} {xs : List Value} (h : w.ownsRow base e size v n xs) {k : Nat} (hk : v.ownBlock = some k) : ∃ cur, Blk w k e cur := by
  rcases h.2 with ⟨rfl, _⟩ | ⟨g', cap, cur, rfl, _, hh, _⟩
  · cases hk
  · have : g' = k := by simpa [Value.ownBlock] using hk
    subst this
    exact ⟨cur, hh⟩
/-- The box of the reference is written: the buffer is as it was. -/
theorem PQ.mid {w wr w2 w3 : World} {B G1 G2 gd gh : Nat} {rv v : Value} {r : RB} {h : List (Int × UInt8)} (q : PQ w wr B G1 G2 gd gh rv r v h) (hf2 : Frm [] wr w2) (hf3 : Frm [G2] w2 w3) :
    RbIn w3 B G1 gd gh rv r ∧ B ≤ w3.heap.size := by
  have q2 := q.frm_ hf2
  have e1 : G1 ≠ G2 := Blk.ne_ q2.rb.blk q2.rf (by decide)
  have e2 : gd ≠ G2 := Blk.ne_ q2.rb.dat q2.rf (by decide)
  have e3 : gh ≠ G2 := Blk.ne_ q2.rb.has q2.rf (by decide)
  have e4 := own_ne q2.rb.own q2.rf (by decide)
  refine ⟨q2.rb.frm hf3 (by simpa using e1) (by simpa using e2) (by simpa using e3) fun k hk hi => ?_, Nat.le_trans q2.bs.2.1 hf3.size⟩
  rw [hk] at e4
  simp at hi
  exact e4 (by rw [hi])
/-- Both have done it. -/
theorem PQ.next {w wr w2 w3 w4 : World} {B G1 G2 gd gh : Nat} {rv rv' v v' : Value} {r r' : RB} {h h' : List (Int × UInt8)} (q : PQ w wr B G1 G2 gd gh rv r v h) (hf2 : Frm [] wr w2) (ho2 : Own w.heap.size w2 v' h')
    (hf3 : Frm [G2] w2 w3) (hb3 : Blk w3 G2 39 (refC (r'.room : Int) r'.next r'.ready v')) {ex : List Nat} (hf4 : Frm ex w3 w4) (hex : ∀ i, i ∈ ex → i = G1 ∨ i = gd ∨ i = gh ∨ rv.ownBlock = some i)
    (hin : RbIn w4 B G1 gd gh rv' r') (hrr : RR r' h') (hsm : r'.room ≤ 300) : PQ w w4 B G1 G2 gd gh rv' r' v' h' := by
  have q2 := q.frm_ hf2
  obtain ⟨r3, hB3⟩ := q.mid hf2 hf3
  have ho3 : Own w.heap.size w3 v' h' := own_frm ho2 hf3 fun k hk hi => by
    have n1 := own_ne ho2 q2.rf (by decide)
    rw [hk] at n1
    simp at hi
    exact n1 (by rw [hi])
  have hot : ∀ i, i ∈ ex → (∃ t cs, Blk w3 i t cs ∧ t ≠ 59 ∧ t ≠ 39) ∧ B ≤ i := by
    intro i hi
    obtain ⟨b0, b1, b2, b3, b4, b5⟩ := q.bs
    rcases hex i hi with rfl | rfl | rfl | hi
    · exact ⟨⟨_, _, r3.blk, by decide, by decide⟩, b2⟩
    · exact ⟨⟨_, _, r3.dat, by decide, by decide⟩, b3⟩
    · exact ⟨⟨_, _, r3.has, by decide, by decide⟩, b4⟩
    · obtain ⟨cur, hc⟩ := own_blk r3.own hi
      exact ⟨⟨_, _, hc, by decide, by decide⟩, (own_lt r3.own hi).2⟩
  have hBw := q.bs.1
  refine ⟨(q2.frm.next1 hf3 (.inr q.bs.2.2.2.2.2)).next hf4 fun i hi => .inr (Nat.le_trans hBw (hot i hi).2), hin, hb3.frm hf4 fun hi => ?_, own_frm ho3 hf4 fun k hk hi => ?_, hrr, hsm, ⟨hBw, Nat.le_trans hB3 hf4.size, q.bs.2.2⟩⟩
  · obtain ⟨⟨t, cs, hb, -, ht⟩, -⟩ := hot _ hi
    exact Blk.ne_ hb hb3 ht rfl
  · obtain ⟨⟨t, cs, hb, ht, -⟩, -⟩ := hot _ hi
    exact own_ne ho3 hb (Ne.symm ht) hk
end Go.Proofs.Ytjfamjaebehieaa
