/- The pieces of the statement RbufStream, as they come in: a slice of arrays of three numbers. -/
import Derived.Test.YtjfamjaebehieaaRbufAux
import Derived.Test.YtjfamjaebehieaaRbufFlow
import Derived.Deep.Slices
import Derived.Laws.IdiomArrays
namespace Go.Proofs.Ytjfamjaebehieaa
open Go.RowKit Go Go.ChangeShapes Go.WideShapes Go.Deep

structure Three where
  x0 : Int
  x1 : Int
  x2 : Int
def Three.At (w : World) (b o : Nat) (x : Three) : Prop :=
  w.cell? ⟨b, o, none⟩ = some (.int .u16 x.x0) ∧ w.cell? ⟨b, o + 1, none⟩ = some (.int .u16 x.x1) ∧ w.cell? ⟨b, o + 2, none⟩ = some (.int .u16 x.x2) ∧
    (0 ≤ x.x0 ∧ x.x0 < 65536) ∧ (0 ≤ x.x1 ∧ x.x1 < 65536) ∧ (0 ≤ x.x2 ∧ x.x2 < 65536)
def Threes (w : World) (A : Option Addr) (n cap : Nat) (z : Nat → Three) : Prop :=
  n ≤ cap ∧ cap ≤ maxLen ∧ (0 < n → ∃ b o, A = some ⟨b, o, none⟩ ∧ b < w.heap.size ∧ ∀ i, i < n → (z i).At w b (o + i * 3))

theorem addr_add_lit' (b o n : Nat) : (⟨b, o, none⟩ : Addr).add n = ⟨b, o + n, none⟩ := by
  unfold Addr.add
  split
  · rename_i h; rw [h]; rfl
  · rfl

theorem threes_open {H : Type} {enc : TypeId × Value → H} {w : World} {a : Option Addr} {len cap : Nat} {d : DataW H} {p : List MemPlace}
    (h : DataW.Trod enc Try.prog w 0 (fun _ => true) true 51 (.slice a len cap) d p) : ∃ z, Threes w a len cap z := by
  obtain ⟨fuel, hf⟩ := h
  rcases open_slice Try.underlying51 hf with ⟨hcs, _⟩ | ⟨x, l, c, m, n, D, Pl, hcs, _, hl, hm, hmm, _, hel⟩
  · simp [Value.cells] at hcs
    obtain ⟨rfl, rfl, rfl⟩ := hcs
    exact ⟨fun _ => ⟨0, 0, 0⟩, Nat.le_refl _, Nat.zero_le _, fun h => absurd h (by omega)⟩
  · simp [Value.cells] at hcs
    obtain ⟨rfl, rfl, rfl⟩ := hcs
    have hmc : m = cap := by simpa using hmm
    subst hmc
    have hC : Try.prog.cellsOf 52 = 3 := by kernel_rfl
    rcases Nat.eq_zero_or_pos len with h0 | h0
    · exact ⟨fun _ => ⟨0, 0, 0⟩, hl, hm, fun h => absurd h (by omega)⟩
    have hsp : x.spot = none := by
      obtain ⟨cs', hc, _⟩ := hel 0 (by omega)
      rw [hC] at hc
      obtain ⟨_, hlen, hat⟩ := World.cells?_some hc
      have h1 := hat 0 (by omega)
      rw [List.getElem?_eq_getElem (by omega)] at h1
      have := World.cell?_spot h1
      simpa [Addr.add] using this
    obtain ⟨b, o, sp⟩ := x
    simp only at hsp
    subst hsp
    have hev : ∀ i, i < len → ∃ z : Three, z.At w b (o + i * 3) := by
      intro i hi
      obtain ⟨cs', hc, ht⟩ := hel i (by omega)
      rw [hC, addr_add_lit'] at hc
      obtain ⟨_, hlen, hat⟩ := World.cells?_some hc
      match cs', hlen with
      | [c0, c1, c2], _ =>
        obtain ⟨y0, y1, y2, n', _, f0, f1, f2⟩ := trod_array3 Try.underlying52 (by kernel_rfl) ht
        obtain ⟨v0, e0, -, w0⟩ := DataW.trod_int Try.underlying23 f0
        obtain ⟨v1, e1, -, w1⟩ := DataW.trod_int Try.underlying23 f1
        obtain ⟨v2, e2, -, w2⟩ := DataW.trod_int Try.underlying23 f2
        simp only [List.cons.injEq, and_true] at e0 e1 e2
        subst e0 e1 e2
        have a0 := hat 0 (by omega)
        have a1 := hat 1 (by omega)
        have a2 := hat 2 (by omega)
        rw [addr_add_lit'] at a0 a1 a2
        exact ⟨⟨v0, v1, v2⟩, a0, a1, a2, u16_of_wf w0, u16_of_wf w1, u16_of_wf w2⟩
    haveI : Inhabited Three := ⟨⟨0, 0, 0⟩⟩
    obtain ⟨z, hz⟩ := choose_lt hev
    refine ⟨z, hl, hm, fun _ => ⟨b, o, rfl, ?_, hz⟩⟩
    have := (hz 0 h0).1
    simp only [Nat.zero_mul, Nat.add_zero] at this
    exact cell_block_lt this

end Go.Proofs.Ytjfamjaebehieaa
