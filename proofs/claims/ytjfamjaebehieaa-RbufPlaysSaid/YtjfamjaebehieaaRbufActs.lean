/- The acts of the rbuf statements, as they come in. -/
import Derived.Test.YtjfamjaebehieaaRbufAux
import Derived.Deep.Slices
import Derived.Deep.Fields
namespace Go.Proofs.Ytjfamjaebehieaa
open Go.RowKit Go Go.ChangeShapes Go.WideShapes Go.Deep

structure Act12 where
  dO : Int
  n : Int
  near : Bool
  many : Int
  s : List UInt8
def Act12.At (w : World) (b o : Nat) (x : Act12) : Prop :=
  w.cell? ⟨b, o, none⟩ = some (.int .i64 x.dO) ∧ w.cell? ⟨b, o + 1, none⟩ = some (.int .u32 x.n) ∧ w.cell? ⟨b, o + 2, none⟩ = some (.bool x.near) ∧
    w.cell? ⟨b, o + 3, none⟩ = some (.int .i64 x.many) ∧ w.cell? ⟨b, o + 4, none⟩ = some (.string ⟨x.s.toArray⟩) ∧ (0 ≤ x.n ∧ x.n < 4294967296 ∧ x.many ≤ 9223372036854775807) ∧ x.s.length ≤ maxLen
def Acts (w : World) (A : Option Addr) (n cap : Nat) (z : Nat → Act12) : Prop :=
  n ≤ cap ∧ cap ≤ maxLen ∧ (0 < n → ∃ b o, A = some ⟨b, o, none⟩ ∧ b < w.heap.size ∧ ∀ i, i < n → (z i).At w b (o + i * 5))

theorem addr_add_lit' (b o n : Nat) : (⟨b, o, none⟩ : Addr).add n = ⟨b, o + n, none⟩ := by
  unfold Addr.add
  split
  · rename_i h; rw [h]; rfl
  · rfl

theorem acts_open {H : Type} {enc : TypeId × Value → H} {w : World} {a : Option Addr} {len cap : Nat} {d : DataW H} {p : List MemPlace}
    (h : DataW.Trod enc Try.prog w 0 (fun _ => true) true 35 (.slice a len cap) d p) : ∃ z, Acts w a len cap z := by
  obtain ⟨fuel, hf⟩ := h
  rcases open_slice Try.underlying35 hf with ⟨hcs, _⟩ | ⟨x, l, c, m, n, D, Pl, hcs, _, hl, hm, hmm, _, hel⟩
  · simp [Value.cells] at hcs
    obtain ⟨rfl, rfl, rfl⟩ := hcs
    exact ⟨fun _ => ⟨0, 0, false, 0, []⟩, Nat.le_refl _, Nat.zero_le _, fun h => absurd h (by omega)⟩
  · simp [Value.cells] at hcs
    obtain ⟨rfl, rfl, rfl⟩ := hcs
    have hmc : m = cap := by simpa using hmm
    subst hmc
    have hC : Try.prog.cellsOf 41 = 5 := by kernel_rfl
    rcases Nat.eq_zero_or_pos len with h0 | h0
    · exact ⟨fun _ => ⟨0, 0, false, 0, []⟩, hl, hm, fun h => absurd h (by omega)⟩
    have hsp : x.spot = none := by
      obtain ⟨cs', hc, _⟩ := hel 0 (by omega)
      rw [hC] at hc
      obtain ⟨_, hlen, hat⟩ := World.cells?_some hc
      have h1 := hat 0 (by omega)
      rw [List.getElem?_eq_getElem (by omega)] at h1
      have := World.cell?_spot h1
      simpa [Addr.add] using this
    obtain ⟨b, o, sp⟩ := x
    simp only at hsp
    subst hsp
    have hev : ∀ i, i < len → ∃ z : Act12, z.At w b (o + i * 5) := by
      intro i hi
      obtain ⟨cs', hc, ht⟩ := hel i (by omega)
      rw [hC, addr_add_lit'] at hc
      obtain ⟨_, hlen, hat⟩ := World.cells?_some hc
      obtain ⟨ys, n', _, _, hlen2, _, hfd⟩ := DataW.trod_struct Try.underlying41 ht
      match cs', hlen with
      | [c0, c1, c2, c3, c4], _ =>
        have k3 : Try.prog.cellsOf 3 = 1 := by kernel_rfl
        have k26 : Try.prog.cellsOf 22 = 1 := by kernel_rfl
        have k4 : Try.prog.cellsOf 4 = 1 := by kernel_rfl
        have k9 : Try.prog.cellsOf 9 = 1 := by kernel_rfl
        have f0 : DataW.trod enc Try.prog w 0 (fun _ => true) true n' 3 (List.take (Try.prog.cellsOf 3) (List.drop 0 [c0, c1, c2, c3, c4])) = ys[0]? := hfd 0 _ rfl
        have f1 : DataW.trod enc Try.prog w 0 (fun _ => true) true n' 22 (List.take (Try.prog.cellsOf 22) (List.drop 1 [c0, c1, c2, c3, c4])) = ys[1]? := hfd 1 _ rfl
        have f2 : DataW.trod enc Try.prog w 0 (fun _ => true) true n' 4 (List.take (Try.prog.cellsOf 4) (List.drop 2 [c0, c1, c2, c3, c4])) = ys[2]? := hfd 2 _ rfl
        have f3 : DataW.trod enc Try.prog w 0 (fun _ => true) true n' 3 (List.take (Try.prog.cellsOf 3) (List.drop 3 [c0, c1, c2, c3, c4])) = ys[3]? := hfd 3 _ rfl
        have f4 : DataW.trod enc Try.prog w 0 (fun _ => true) true n' 9 (List.take (Try.prog.cellsOf 9) (List.drop 4 [c0, c1, c2, c3, c4])) = ys[4]? := hfd 4 _ rfl
        have hys : ys.length = 5 := by assumption
        rw [List.getElem?_eq_getElem (by omega)] at f0 f1 f2 f3 f4
        simp only [k3, k26, k4, k9, List.drop_succ_cons, List.drop_zero, List.take_succ_cons, List.take_zero] at f0 f1 f2 f3 f4
        obtain ⟨v0, e0, -, w0⟩ := DataW.trod_int Try.underlying3 f0
        obtain ⟨v1, e1, -, w1⟩ := DataW.trod_int Try.underlying22 f1
        obtain ⟨v2, e2, -⟩ := DataW.trod_bool Try.underlying4 f2
        obtain ⟨v3, e3, -, w3⟩ := DataW.trod_int Try.underlying3 f3
        obtain ⟨v4, e4, -, w4⟩ := DataW.trod_string Try.underlying9 f4
        simp only [List.cons.injEq, and_true] at e0 e1 e2 e3 e4
        subst e0 e1 e2 e3 e4
        obtain ⟨l, rfl⟩ := ba_list v4
        rw [ba_size] at w4
        have a0 := hat 0 (by omega)
        have a1 := hat 1 (by omega)
        have a2 := hat 2 (by omega)
        have a3 := hat 3 (by omega)
        have a4 := hat 4 (by omega)
        rw [addr_add_lit'] at a0 a1 a2 a3 a4
        exact ⟨⟨v0, v1, v2, v3, l⟩, a0, a1, a2, a3, a4, ⟨(u32_of_wf w1).1, (u32_of_wf w1).2, (i64_of_wf w3).2⟩, w4⟩
    haveI : Inhabited Act12 := ⟨⟨0, 0, false, 0, []⟩⟩
    obtain ⟨z, hz⟩ := choose_lt hev
    refine ⟨z, hl, hm, fun _ => ⟨b, o, rfl, ?_, hz⟩⟩
    have := (hz 0 h0).1
    simp only [Nat.zero_mul, Nat.add_zero] at this
    exact cell_block_lt this

end Go.Proofs.Ytjfamjaebehieaa
