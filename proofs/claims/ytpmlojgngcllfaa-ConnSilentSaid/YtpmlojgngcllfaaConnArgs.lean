/- A segment, as it comes in. -/
import Derived.Test.YtpmlojgngcllfaaConnAwake
import Derived.Test.YtpmlojgngcllfaaConnNo
import Derived.Deep.Slices
import Derived.Deep.Fields
namespace Go.Proofs.Ytpmlojgngcllfaa
open Go.RowKit Go Go.ChangeShapes Go.WideShapes Go.Deep

structure Sg.In (z : Sg) : Prop where
  f : (Lit.int .i64 z.frm).wf = true
  d : (Lit.int .i64 z.dst).wf = true
  s : 0 ≤ z.seq ∧ z.seq < 4294967296
  a : 0 ≤ z.ack ∧ z.ack < 4294967296
  fl : (Lit.int .i64 z.flags).wf = true
  w : -9223372036854775808 ≤ z.window ∧ z.window ≤ 9223372036854775807
  m : (Lit.int .i64 z.mss).wf = true
  dl : z.data.length ≤ maxLen

theorem seg_cells {H : Type} {enc : TypeId × Value → H} {w : World} {n : Nat} {c0 c1 c2 c3 c4 c5 c6 c7 : Value} {y : DataW H × List MemPlace}
    (h : DataW.trod enc Try.prog w 0 (fun _ => true) true n 42 [c0, c1, c2, c3, c4, c5, c6, c7] = some y) : ∃ z : Sg, [c0, c1, c2, c3, c4, c5, c6, c7] = z.cells ∧ z.In := by
  obtain ⟨ys, n', _, _, hlen2, _, hfd⟩ := DataW.trod_struct Try.underlying42 h
  have k3 : Try.prog.cellsOf 3 = 1 := by kernel_rfl
  have k22 : Try.prog.cellsOf 22 = 1 := by kernel_rfl
  have k9 : Try.prog.cellsOf 9 = 1 := by kernel_rfl
  have f0 : DataW.trod enc Try.prog w 0 (fun _ => true) true n' 3 (List.take (Try.prog.cellsOf 3) (List.drop 0 [c0, c1, c2, c3, c4, c5, c6, c7])) = ys[0]? := hfd 0 _ rfl
  have f1 : DataW.trod enc Try.prog w 0 (fun _ => true) true n' 3 (List.take (Try.prog.cellsOf 3) (List.drop 1 [c0, c1, c2, c3, c4, c5, c6, c7])) = ys[1]? := hfd 1 _ rfl
  have f2 : DataW.trod enc Try.prog w 0 (fun _ => true) true n' 22 (List.take (Try.prog.cellsOf 22) (List.drop 2 [c0, c1, c2, c3, c4, c5, c6, c7])) = ys[2]? := hfd 2 _ rfl
  have f3 : DataW.trod enc Try.prog w 0 (fun _ => true) true n' 22 (List.take (Try.prog.cellsOf 22) (List.drop 3 [c0, c1, c2, c3, c4, c5, c6, c7])) = ys[3]? := hfd 3 _ rfl
  have f4 : DataW.trod enc Try.prog w 0 (fun _ => true) true n' 3 (List.take (Try.prog.cellsOf 3) (List.drop 4 [c0, c1, c2, c3, c4, c5, c6, c7])) = ys[4]? := hfd 4 _ rfl
  have f5 : DataW.trod enc Try.prog w 0 (fun _ => true) true n' 3 (List.take (Try.prog.cellsOf 3) (List.drop 5 [c0, c1, c2, c3, c4, c5, c6, c7])) = ys[5]? := hfd 5 _ rfl
  have f6 : DataW.trod enc Try.prog w 0 (fun _ => true) true n' 3 (List.take (Try.prog.cellsOf 3) (List.drop 6 [c0, c1, c2, c3, c4, c5, c6, c7])) = ys[6]? := hfd 6 _ rfl
  have f7 : DataW.trod enc Try.prog w 0 (fun _ => true) true n' 9 (List.take (Try.prog.cellsOf 9) (List.drop 7 [c0, c1, c2, c3, c4, c5, c6, c7])) = ys[7]? := hfd 7 _ rfl
  have hys : ys.length = 8 := by assumption
  rw [List.getElem?_eq_getElem (by omega)] at f0 f1 f2 f3 f4 f5 f6 f7
  simp only [k3, k22, k9, List.drop_succ_cons, List.drop_zero, List.take_succ_cons, List.take_zero] at f0 f1 f2 f3 f4 f5 f6 f7
  obtain ⟨v0, e0, -, w0⟩ := DataW.trod_int Try.underlying3 f0
  obtain ⟨v1, e1, -, w1⟩ := DataW.trod_int Try.underlying3 f1
  obtain ⟨v2, e2, -, w2⟩ := DataW.trod_int Try.underlying22 f2
  obtain ⟨v3, e3, -, w3⟩ := DataW.trod_int Try.underlying22 f3
  obtain ⟨v4, e4, -, w4⟩ := DataW.trod_int Try.underlying3 f4
  obtain ⟨v5, e5, -, w5⟩ := DataW.trod_int Try.underlying3 f5
  obtain ⟨v6, e6, -, w6⟩ := DataW.trod_int Try.underlying3 f6
  obtain ⟨v7, e7, -, w7⟩ := DataW.trod_string Try.underlying9 f7
  simp only [List.cons.injEq, and_true] at e0 e1 e2 e3 e4 e5 e6 e7
  subst e0 e1 e2 e3 e4 e5 e6 e7
  obtain ⟨l, rfl⟩ := ba_list v7
  rw [ba_size] at w7
  exact ⟨⟨v0, v1, v2, v3, v4, v5, v6, l⟩, rfl, w0, w1, u32_of_wf w2, u32_of_wf w3, w4, i64_of_wf w5, w6, w7⟩

def SegVal (_w : World) (v : Value) (z : Sg) : Prop := v = .agg #[.int .i64 z.frm, .int .i64 z.dst, .int .u32 z.seq, .int .u32 z.ack, .int .i64 z.flags, .int .i64 z.window, .int .i64 z.mss, .string ⟨z.data.toArray⟩] ∧ z.In
theorem seg_open {H : Type} {enc : TypeId × Value → H} {w : World} {r : Reach} {b : Nat} {v : Value} {d : DataW H} {p : List MemPlace} (hv : Value.okWide Try.prog w r b 42 v)
    (h : DataW.Trod enc Try.prog w 0 (fun _ => true) true 42 v d p) : ∃ z, SegVal w v z := by
  obtain ⟨cs, rfl, hsz⟩ := okWide_struct Try.underlying42 hv
  have hC : Try.prog.cellsOf 42 = 8 := by kernel_rfl
  rw [hC] at hsz
  obtain ⟨l⟩ := cs
  match l, hsz with
  | [c0, c1, c2, c3, c4, c5, c6, c7], _ =>
    obtain ⟨fuel, hf⟩ := h
    have hf2 : DataW.trod enc Try.prog w 0 (fun _ => true) true fuel 42 [c0, c1, c2, c3, c4, c5, c6, c7] = some (d, p) := hf
    obtain ⟨z, hz, hok⟩ := seg_cells hf2
    refine ⟨z, ?_, hok⟩
    have e : ([c0, c1, c2, c3, c4, c5, c6, c7] : List Value).toArray = z.cells.toArray := by rw [hz]
    show Value.agg ([c0, c1, c2, c3, c4, c5, c6, c7] : List Value).toArray = .agg z.cells.toArray
    rw [e]

end Go.Proofs.Ytpmlojgngcllfaa
