/- The acts of the conn statements, as they come in; Great; ticks. -/
import Derived.Test.YtpmlojgngcllfaaConnArgs
namespace Go.Proofs.Ytpmlojgngcllfaa
open Go.RowKit Go Go.ChangeShapes Go.WideShapes Go.Deep

structure Act15 where
  dO : Int
  s : Sg
  near : Bool
  n : Int
  data : List UInt8
def Act15.At (w : World) (b o : Nat) (x : Act15) : Prop :=
  w.cell? ⟨b, o, none⟩ = some (.int .i64 x.dO) ∧ (∀ j u, x.s.cells[j]? = some u → w.cell? ⟨b, o + 1 + j, none⟩ = some u) ∧ w.cell? ⟨b, o + 9, none⟩ = some (.bool x.near) ∧
    w.cell? ⟨b, o + 10, none⟩ = some (.int .i64 x.n) ∧ w.cell? ⟨b, o + 11, none⟩ = some (.string ⟨x.data.toArray⟩) ∧ x.s.In ∧ (Lit.int .i64 x.n).wf = true ∧ x.data.length ≤ maxLen
def Acts15 (w : World) (A : Option Addr) (n cap : Nat) (z : Nat → Act15) : Prop :=
  n ≤ cap ∧ cap ≤ maxLen ∧ (0 < n → ∃ b o, A = some ⟨b, o, none⟩ ∧ b < w.heap.size ∧ ∀ i, i < n → (z i).At w b (o + i * 12))
def noAct : Act15 := ⟨0, ⟨0, 0, 0, 0, 0, 0, 0, []⟩, false, 0, []⟩

theorem addr_add_lit' (b o n : Nat) : (⟨b, o, none⟩ : Addr).add n = ⟨b, o + n, none⟩ := by
  unfold Addr.add
  split
  · rename_i h; rw [h]; rfl
  · rfl

theorem acts15_open {H : Type} {enc : TypeId × Value → H} {w : World} {a : Option Addr} {len cap : Nat} {d : DataW H} {p : List MemPlace}
    (h : DataW.Trod enc Try.prog w 0 (fun _ => true) true 56 (.slice a len cap) d p) : ∃ z, Acts15 w a len cap z := by
  obtain ⟨fuel, hf⟩ := h
  rcases open_slice Try.underlying56 hf with ⟨hcs, _⟩ | ⟨x, l, c, m, n, D, Pl, hcs, _, hl, hm, hmm, _, hel⟩
  · simp [Value.cells] at hcs
    obtain ⟨rfl, rfl, rfl⟩ := hcs
    exact ⟨fun _ => noAct, Nat.le_refl _, Nat.zero_le _, fun h => absurd h (by omega)⟩
  · simp [Value.cells] at hcs
    obtain ⟨rfl, rfl, rfl⟩ := hcs
    have hmc : m = cap := by simpa using hmm
    subst hmc
    have hC : Try.prog.cellsOf 60 = 12 := by kernel_rfl
    rcases Nat.eq_zero_or_pos len with h0 | h0
    · exact ⟨fun _ => noAct, hl, hm, fun h => absurd h (by omega)⟩
    have hsp : x.spot = none := by
      obtain ⟨cs', hc, _⟩ := hel 0 (by omega)
      rw [hC] at hc
      obtain ⟨_, hlen, hat⟩ := World.cells?_some hc
      have h1 := hat 0 (by omega)
      rw [List.getElem?_eq_getElem (by omega)] at h1
      have := World.cell?_spot h1
      simpa [Addr.add] using this
    obtain ⟨b, o, sp⟩ := x
    simp only at hsp
    subst hsp
    have hev : ∀ i, i < len → ∃ z : Act15, z.At w b (o + i * 12) := by
      intro i hi
      obtain ⟨cs', hc, ht⟩ := hel i (by omega)
      rw [hC, addr_add_lit'] at hc
      obtain ⟨_, hlen, hat⟩ := World.cells?_some hc
      obtain ⟨ys, n', _, _, hlen2, _, hfd⟩ := DataW.trod_struct Try.underlying60 ht
      match cs', hlen with
      | [c0, c1, c2, c3, c4, c5, c6, c7, c8, c9, c10, c11], _ =>
        have k3 : Try.prog.cellsOf 3 = 1 := by kernel_rfl
        have k42 : Try.prog.cellsOf 42 = 8 := by kernel_rfl
        have k4 : Try.prog.cellsOf 4 = 1 := by kernel_rfl
        have k9 : Try.prog.cellsOf 9 = 1 := by kernel_rfl
        have f0 : DataW.trod enc Try.prog w 0 (fun _ => true) true n' 3 (List.take (Try.prog.cellsOf 3) (List.drop 0 [c0, c1, c2, c3, c4, c5, c6, c7, c8, c9, c10, c11])) = ys[0]? := hfd 0 _ rfl
        have f1 : DataW.trod enc Try.prog w 0 (fun _ => true) true n' 42 (List.take (Try.prog.cellsOf 42) (List.drop 1 [c0, c1, c2, c3, c4, c5, c6, c7, c8, c9, c10, c11])) = ys[1]? := hfd 1 _ rfl
        have f2 : DataW.trod enc Try.prog w 0 (fun _ => true) true n' 4 (List.take (Try.prog.cellsOf 4) (List.drop 9 [c0, c1, c2, c3, c4, c5, c6, c7, c8, c9, c10, c11])) = ys[2]? := hfd 2 _ rfl
        have f3 : DataW.trod enc Try.prog w 0 (fun _ => true) true n' 3 (List.take (Try.prog.cellsOf 3) (List.drop 10 [c0, c1, c2, c3, c4, c5, c6, c7, c8, c9, c10, c11])) = ys[3]? := hfd 3 _ rfl
        have f4 : DataW.trod enc Try.prog w 0 (fun _ => true) true n' 9 (List.take (Try.prog.cellsOf 9) (List.drop 11 [c0, c1, c2, c3, c4, c5, c6, c7, c8, c9, c10, c11])) = ys[4]? := hfd 4 _ rfl
        have hys : ys.length = 5 := by assumption
        rw [List.getElem?_eq_getElem (by omega)] at f0 f1 f2 f3 f4
        simp only [k3, k42, k4, k9, List.drop_succ_cons, List.drop_zero, List.take_succ_cons, List.take_zero] at f0 f1 f2 f3 f4
        obtain ⟨v0, e0, -, w0⟩ := DataW.trod_int Try.underlying3 f0
        obtain ⟨z, hz, hzin⟩ := seg_cells f1
        obtain ⟨v2, e2, -⟩ := DataW.trod_bool Try.underlying4 f2
        obtain ⟨v3, e3, -, w3⟩ := DataW.trod_int Try.underlying3 f3
        obtain ⟨v4, e4, -, w4⟩ := DataW.trod_string Try.underlying9 f4
        simp only [List.cons.injEq, and_true] at e0 e2 e3 e4
        subst e0 e2 e3 e4
        obtain ⟨l, rfl⟩ := ba_list v4
        rw [ba_size] at w4
        have a0 := hat 0 (by omega)
        have a9 := hat 9 (by omega)
        have a10 := hat 10 (by omega)
        have a11 := hat 11 (by omega)
        rw [addr_add_lit'] at a0 a9 a10 a11
        refine ⟨⟨v0, z, v2, v3, l⟩, a0, fun j u hu => ?_, a9, a10, a11, hzin, w3, w4⟩
        have hu' : z.cells[j]? = some u := hu
        rw [← hz] at hu'
        have hj : j < 8 := (List.getElem?_eq_some_iff.1 hu').1
        have aj := hat (j + 1) (by omega)
        rw [addr_add_lit'] at aj
        rw [show o + i * 12 + 1 + j = o + i * 12 + (j + 1) from by omega, aj, ← hu']
        match j, hj with
        | 0, _ | 1, _ | 2, _ | 3, _ | 4, _ | 5, _ | 6, _ | 7, _ => rfl
    haveI : Inhabited Act15 := ⟨noAct⟩
    obtain ⟨z, hz⟩ := choose_lt hev
    refine ⟨z, hl, hm, fun _ => ⟨b, o, rfl, ?_, hz⟩⟩
    have := (hz 0 h0).1
    simp only [Nat.zero_mul, Nat.add_zero] at this
    exact cell_block_lt this

def tot (z : Nat → Act15) : Nat → Nat
  | 0 => 0
  | k + 1 => tot z k + (z k).s.data.length + (z k).data.length
def totm (z : Nat → Act15) : Nat → Nat
  | 0 => 0
  | k + 1 => totm z k + min (z k).s.data.length 30001 + min (z k).data.length 30001
theorem tot_of_totm (z : Nat → Act15) : ∀ k, totm z k ≤ 30000 → tot z k = totm z k
  | 0, _ => rfl
  | k + 1, h => by
    have h1 : totm z k + min (z k).s.data.length 30001 + min (z k).data.length 30001 ≤ 30000 := h
    show tot z k + (z k).s.data.length + (z k).data.length = totm z k + min (z k).s.data.length 30001 + min (z k).data.length 30001
    rw [tot_of_totm z k (by omega)]
    omega
theorem tot_mono (z : Nat → Act15) {a b : Nat} (h : a ≤ b) : tot z a ≤ tot z b := by
  induction b with
  | zero => rw [show a = 0 from by omega]; exact Nat.le_refl _
  | succ b ih =>
    by_cases he : a = b + 1
    · rw [he]; exact Nat.le_refl _
    · refine Nat.le_trans (ih (by omega)) ?_
      show tot z b ≤ tot z b + (z b).s.data.length + (z b).data.length
      omega
theorem totm_le (z : Nat → Act15) : ∀ k, totm z k ≤ k * 60002
  | 0 => by simp [totm]
  | k + 1 => by
    have := totm_le z k
    show totm z k + min (z k).s.data.length 30001 + min (z k).data.length 30001 ≤ _
    omega

def GreatPost (z : Nat → Act15) (len : Nat) (w : World) (e : Ending) (w' : World) : Prop :=
  ∃ B : Bool, e = .returned (.bool B) ∧ (B = false → len ≤ 100 ∧ tot z len ≤ 30000) ∧ Drw w w'
theorem great_end (z : Nat → Act15) (len : Nat) (B : Bool) (h : B = false → len ≤ 100 ∧ totm z len ≤ 30000) : B = false → len ≤ 100 ∧ tot z len ≤ 30000 := by
  intro hb
  obtain ⟨h1, h2⟩ := h hb
  exact ⟨h1, by rw [tot_of_totm z len h2]; exact h2⟩

set_option maxRecDepth 100000 in
set_option maxHeartbeats 1000000 in
theorem great_any (A : Option Addr) (len cap : Nat) (z : Nat → Act15) (w w0 : World) (hz : Acts15 w0 A len cap z) (hf : Frm [] w0 w) :
    Calls Try.prog 27 #[.slice A len cap] w (GreatPost z len w) := by
  obtain ⟨hlc, hcm, hel⟩ := hz
  have hlm : cap ≤ 9223372036854775807 := hcm
  clear hcm
  go_enter Try.func27, Try.ntmps27
  go_wp2_with fail
  go_loopw [3, 4] (fun n i wr => ∃ k : Nat, k ≤ len ∧ k ≤ 101 ∧ i = .int .i64 (k : Int) ∧ n = .int .i64 (totm z k : Nat) ∧ Drw w wr) (fun _ i _ => 101 - (intOf i).toNat)
  case atStart => exact ⟨0, by omega, by omega, rfl, rfl, Drw.refl _⟩
  case round =>
    obtain ⟨k, hk, hk2, rfl, rfl, hd⟩ := hrel
    have hle := totm_le z k
    have hle2 : (totm z k : Int) ≤ 6060202 := by omega
    have hle3 : (0 : Int) ≤ (totm z k : Int) := by omega
    clear hle
    by_cases hlt : k < len
    · by_cases hlt2 : k ≤ 100
      · obtain ⟨b, o, rfl, hbl, hat⟩ := hel (by omega)
        have hc := (hd.cell ⟨b, o + k * 12 + 11, none⟩).trans ((hf.cell (p := ⟨b, o + k * 12 + 11, none⟩) hbl (by simp)).trans (hat k hlt).2.2.2.2.1)
        have hc2 := (hd.cell ⟨b, o + k * 12 + 1 + 7, none⟩).trans ((hf.cell (p := ⟨b, o + k * 12 + 1 + 7, none⟩) hbl (by simp)).trans ((hat k hlt).2.1 7 _ rfl))
        rw [show o + k * 12 + 1 + 7 = o + k * 12 + 8 from by omega] at hc2
        have hmx : (z k).data.length ≤ 9223372036854775807 := (hat k hlt).2.2.2.2.2.2.2
        have hmx2 : (z k).s.data.length ≤ 9223372036854775807 := (hat k hlt).2.2.2.2.2.1.dl
        clear hat
        have hst : totm z (k + 1) = totm z k + min (z k).s.data.length 30001 + min (z k).data.length 30001 := rfl
        have hmin : (if (30001 : Int) < (z k).data.length then 30001 else ((z k).data.length : Int)) = ((min (z k).data.length 30001 : Nat) : Int) := by split <;> omega
        have hmb : ((min (z k).data.length 30001 : Nat) : Int) ≤ 30001 := by omega
        have hmin2 : (if (30001 : Int) < (z k).s.data.length then 30001 else ((z k).s.data.length : Int)) = ((min (z k).s.data.length 30001 : Nat) : Int) := by split <;> omega
        have hmb2 : ((min (z k).s.data.length 30001 : Nat) : Int) ≤ 30001 := by omega
        have HST := Lib.hid hst
        clear hst
        generalize min (z k).s.data.length 30001 = M2 at *
        generalize min (z k).data.length 30001 = M at *
        have l0 : (0 : Int) ≤ (k : Int) := by omega
        have l1 : (k : Int) < (len : Int) := by omega
        have l2 : (len : Int) ≤ (cap : Int) := by omega
        have g1 : IntKind.i64.wrap ((totm z k : Int) + (M2 : Int)) = (totm z k : Int) + (M2 : Int) := IntWalk.i64_in _ (by omega)
        have g2 : IntKind.i64.wrap ((totm z k : Int) + (M2 : Int) + (M : Int)) = (totm z k : Int) + (M2 : Int) + (M : Int) := IntWalk.i64_in _ (by omega)
        go_wp2_with fail
        go_quiet (fail)
        clear g1 g2
        go_wp2_with fail
        go_roundw
        case rel => exact ⟨k + 1, by omega, by omega, by go_num, by rw [HST.out]; go_num, hd.trans (Drw.mk _ _)⟩
        case measure => simp [intOf]; omega
      · go_wp2_with fail
        go_ret
        exact ⟨_, rfl, fun h => by simp at h, hd⟩
    · obtain rfl : k = len := by omega
      clear hlt hk hel hlc hf
      go_wp2_with fail
      all_goals go_ret
      all_goals refine ⟨_, rfl, great_end z k _ fun h => ?_, hd⟩
      all_goals first | (simp at h; done) | (simp at h; omega)

end Go.Proofs.Ytpmlojgngcllfaa
