/- Proved: the statement Rows.RtoBoundsSaid: for every input the Go function blockyardlaw14.RtoBounds returns true and leaves its arguments as they were. Conditions: none beyond the row's own. -/
import Derived.Test.YtcaifpjcgdpekaaRows
import Derived.Test.YtcaifpjcgdpekaaRtoAux
import Derived.Test.YtcaifpjcgdpekaaRtoPlain
import Derived.WalkKit
import Derived.ProofKit
import Derived.OpenShut
import Derived.ShutString
import Derived.ChangeOld
import Derived.Below
namespace Go.Proofs.Ytcaifpjcgdpekaa.rtoBounds
open Go.ChangeShapes Go.WideShapes Go.ChangeAt Go.RowKit
open Go.ChangeMaps (open_string shut_string)
set_option linter.unusedVariables false

theorem own : ownKnob Try.prog.godebug = none := by kernel_rfl
theorem laidOut : laidOutB Try.prog = true := by kernel_rfl

theorem measure_core (c : Clk) (v r : Int) : Clk.measure { c with wait := v } r = c.measure r := by
  obtain ⟨l, m, me, va, b, w⟩ := c
  unfold Clk.measure Clk.meet
  cases b <;> rfl
def RB (g1 g2 : Nat) (a1 a2 : Int) (w wr : World) (c : Clk) (v : Int) : Prop :=
  c.Ok ∧ Clk.Ok { c with wait := v } ∧ c.least = a1 ∧ c.most = a2 ∧ Blk wr g1 29 c.cells ∧ Blk wr g2 29 (Clk.cells { c with wait := v }) ∧ Frm [] w wr
theorem back_wait (c : Clk) (h : c.Ok) : (if c.most < 2 * c.wait then c.most else 2 * c.wait) = c.back.wait ∧ c.wait ≤ c.back.wait := by
  obtain ⟨h1, h2, h3, h4, h5, h6, h7, h8⟩ := h
  simp only [Clk.back, Clk.set, clip]
  refine ⟨?_, by omega⟩
  split <;> omega
set_option maxRecDepth 100000 in
set_option maxHeartbeats 2000000 in
theorem walk (a0 : Int) (a1 : Int) (a2 : Int) (a3 : Option Addr) (len3 cap3 : Nat) (w : World) (w0 : (Lit.int .i64 a0).wf = true) (w1 : (Lit.int .i64 a1).wf = true) (w2 : (Lit.int .i64 a2).wf = true) (z3 : List Int) (w3 : Ints .i64 w a3 len3 cap3 z3) : Calls Try.prog 5 #[.int .i64 a0, .int .i64 a1, .int .i64 a2, .slice a3 len3 cap3] w fun e w' => e = .returned (.bool true) ∧ Below w.heap.size w w' := by
  obtain ⟨hxl, hlc, hcm, hxw, hxc⟩ := w3
  have hlm : cap3 ≤ 9223372036854775807 := hcm
  clear w0 w1 w2 hcm
  by_cases hbig : 400 < len3
  · have hbig' : decide ((400 : Int) < (len3 : Int)) = true := by simp; omega
    go_enter Try.func5, Try.ntmps5
    go_wp2_with (go_at_call 11; refine (awake_any _).mono ?_; rintro e w1 ⟨rfl, hf1⟩)
    go_ret
    exact ⟨rfl, hf1.below (Nat.le_refl _) (by simp)⟩
  have hbig' : decide ((400 : Int) < (len3 : Int)) = false := by simp; omega
  by_cases k1 : a1 < 1
  · have k1' : decide (a1 < 1) = true := by simp; omega
    go_enter Try.func5, Try.ntmps5
    go_wp2_with (go_at_call 11; refine (awake_any _).mono ?_; rintro e w1 ⟨rfl, hf1⟩)
    go_ret
    exact ⟨rfl, hf1.below (Nat.le_refl _) (by simp)⟩
  have k1' : decide (a1 < 1) = false := by simp; omega
  by_cases k2 : a0 < a1
  · have k2' : decide (a0 < a1) = true := by simp; omega
    go_enter Try.func5, Try.ntmps5
    go_wp2_with (go_at_call 11; refine (awake_any _).mono ?_; rintro e w1 ⟨rfl, hf1⟩)
    go_ret
    exact ⟨rfl, hf1.below (Nat.le_refl _) (by simp)⟩
  have k2' : decide (a0 < a1) = false := by simp; omega
  by_cases k3 : a2 < a0
  · have k3' : decide (a2 < a0) = true := by simp; omega
    go_enter Try.func5, Try.ntmps5
    go_wp2_with (go_at_call 11; refine (awake_any _).mono ?_; rintro e w1 ⟨rfl, hf1⟩)
    go_ret
    exact ⟨rfl, hf1.below (Nat.le_refl _) (by simp)⟩
  have k3' : decide (a2 < a0) = false := by simp; omega
  by_cases k4 : 1048576 < a2
  · have k4' : decide (1048576 < a2) = true := by simp; omega
    go_enter Try.func5, Try.ntmps5
    go_wp2_with (go_at_call 11; refine (awake_any _).mono ?_; rintro e w1 ⟨rfl, hf1⟩)
    go_ret
    exact ⟨rfl, hf1.below (Nat.le_refl _) (by simp)⟩
  have k4' : decide (1048576 < a2) = false := by simp; omega
  have ok0 := Clk.start_ok (first := a0) (least := a1) (most := a2) (by omega) (by omega) (by omega) (by omega)
  have m0 : (Clk.start a0 a1 a2).most ≠ 0 := by show a2 ≠ 0; omega
  go_enter Try.func5, Try.ntmps5
  go_wp2_with (go_at_call 11; refine (awake_any _).mono ?_; rintro e w1 ⟨rfl, hf1⟩)
  refine (new_ok a0 a1 a2 _ (by omega) (by omega) (by omega) (by omega)).mono ?_
  rintro e w2 ⟨rfl, hb2, hf2, -⟩
  go_wp2_with fail
  refine (new_ok a0 a1 a2 _ (by omega) (by omega) (by omega) (by omega)).mono ?_
  rintro e w3 ⟨rfl, hb3, hf3, -⟩
  have hb2' := hb2.frm hf3 (by simp)
  go_wp2_with fail
  refine (wait_blk _ _ _ m0 hb2').mono ?_
  rintro e w4 ⟨rfl, rfl⟩
  have e0 : (Clk.start a0 a1 a2).wait = a0 := rfl
  rw [e0]
  go_wp2_with fail
  have hrp0 : RB w1.heap.size w2.heap.size a1 a2 w w3 (Clk.start a0 a1 a2) a0 := ⟨ok0, ok0, rfl, rfl, hb2', hb3, (hf1.next0 hf2).next0 hf3⟩
  have hlt3 : w1.heap.size < w2.heap.size := hb2.lt
  have hlt0 : w.heap.size ≤ w1.heap.size := hf1.size
  have hne : w1.heap.size ≠ w2.heap.size := by omega
  have hlt2 : w.heap.size ≤ w2.heap.size := by omega
  clear hb2 hb3 hb2' hf2 hf3 hf1 m0 ok0 e0
  generalize hG1 : w1.heap.size = G1 at *
  generalize hG2 : w2.heap.size = G2 at *
  clear hG1 hG2 hbig' k1' k2' k3' k4'
  go_loopw [13] (fun i wr => ∃ (k : Nat) (c : Clk) (v : Int), k ≤ len3 ∧ i = .int .i64 (k : Int) ∧ RB G1 G2 a1 a2 w wr c v) (fun i _ => len3 - (intOf i).toNat)
  case atStart => exact ⟨0, _, _, by omega, rfl, hrp0⟩
  case round =>
    clear hrp0
    obtain ⟨k, c, v, hk, rfl, hok, hokd, hl, hm, hb1, hb2, hfr⟩ := hrel
    have HL := Lib.hid hl
    have HM := Lib.hid hm
    clear hl hm
    have hm0 : c.most ≠ 0 := by have := hok.l1; have := hok.l2; have := hok.l3; omega
    by_cases hlt : k < len3
    · obtain ⟨b, o, rfl, hbl, hcell⟩ := hxc (by omega)
      have hc := (hfr.cell (p := ⟨b, o + k, none⟩) hbl (by simp)).trans (hcell k hlt)
      clear hcell
      generalize hX : z3.getD k 0 = X at hc
      clear hX
      go_wp2_with (go_at_call 8; refine (wait_blk _ _ _ hm0 hb1).mono ?_; rintro e w4 ⟨rfl, rfl⟩)
      · have ok2 := hok.measure (wrap64 (X.tdiv 2))
        have hco := measure_core c v (wrap64 (X.tdiv 2))
        have hle := measure_least c (wrap64 (X.tdiv 2))
        rw [HL.out, HM.out] at hle
        obtain ⟨hle1, hle2⟩ := hle
        refine (measure_blk G1 c _ _ hok hb1).mono ?_
        rintro e wa ⟨rfl, hba, hfa⟩
        have hb2a := hb2.frm hfa (by simpa using fun e => hne e.symm)
        have hca := (hfa.cell (p := ⟨b, o + k, none⟩) (by have := hfr.size; simp only; omega) (by simp; omega)).trans hc
        have HCO := Lib.hid hco
        clear hc hb1 hb2 hco
        go_wp2_with fail
        refine (measure_blk G2 _ _ _ hokd hb2a).mono ?_
        rintro e wb ⟨rfl, hbb, hfb⟩
        rw [HCO.out] at hbb
        have hbab := hba.frm hfb (by simpa using hne)
        have hfr2 := (hfr.next1 hfa (.inr hlt0)).next1 hfb (.inr hlt2)
        clear HCO hba hfa hfb hb2a hca hok hokd
        generalize c.measure (wrap64 (X.tdiv 2)) = c' at *
        have HL' := Lib.hid hle1
        have HM' := Lib.hid hle2
        have h1 : a1 ≤ c'.wait := by have := ok2.l2; omega
        have h2 : c'.wait ≤ a2 := by have := ok2.l3; omega
        have hm1 : c'.most ≠ 0 := by have := ok2.l1; have := ok2.l2; have := ok2.l3; omega
        clear hle1 hle2
        go_wp2_with fail
        refine (wait_blk _ _ _ hm1 hbab).mono ?_
        rintro e w4 ⟨rfl, rfl⟩
        go_wp2_with fail
        refine (wait_blk _ _ _ hm1 hbb).mono ?_
        rintro e w4 ⟨rfl, rfl⟩
        go_wp2_with (go_at_call 8; refine (wait_blk _ _ _ hm1 hbab).mono ?_; rintro e w4 ⟨rfl, rfl⟩)
        go_roundw
        case rel => exact ⟨k + 1, c', c'.wait, by omega, by go_num, ok2, ok2, HL'.out, HM'.out, hbab, hbb, hfr2⟩
        case measure => simp [intOf]; omega
      · have ok2 := hok.back
        obtain ⟨hw1, hw2⟩ := back_wait c hok
        rw [HM.out] at hw1
        have hle1 : c.back.least = a1 := HL.out
        have hle2 : c.back.most = a2 := HM.out
        have hd2 : ({ c with wait := v } : Clk) = { c.back with wait := v } := rfl
        refine (back_blk G1 c _ hok hb1).mono ?_
        rintro e wa ⟨rfl, hba, hfa⟩
        have hb2a := hb2.frm hfa (by simpa using fun e => hne e.symm)
        have hfr2 := hfr.next1 hfa (.inr hlt0)
        rw [hd2] at hokd hb2a
        clear hc hb1 hb2 hfa hok hd2
        generalize hcb : c.back = c' at *
        have HL' := Lib.hid hle1
        have HM' := Lib.hid hle2
        have h1 : a1 ≤ c'.wait := by have := ok2.l2; omega
        have h2 : c'.wait ≤ a2 := by have := ok2.l3; omega
        have hm1 : c'.most ≠ 0 := by have := ok2.l1; have := ok2.l2; have := ok2.l3; omega
        clear hle1 hle2 hcb
        go_wp2_with (go_at_call 8; refine (wait_blk _ _ _ hm1 hba).mono ?_; rintro e w4 ⟨rfl, rfl⟩)
        go_roundw
        case rel => exact ⟨k + 1, c', v, by omega, by go_num, ok2, hokd, HL'.out, HM'.out, hba, hb2a, hfr2⟩
        case measure => simp [intOf]; omega
    · go_wp2_with fail
      go_ret
      exact ⟨rfl, hfr.below (Nat.le_refl _) (by simp)⟩

set_option maxRecDepth 100000 in
theorem lifted (os : Os) (started : os.Started) (H : Type) (enc : TypeId × Value → H) :
    ReturnsInHanded {} Try.checked os 5 .any (Rows.rtoBoundsSpec.pre6 enc Try.prog Try.f5 Rows.rtoBoundsRow.domain false) (Rows.rtoBoundsSpec.post enc Try.prog Try.f5 false true false false) := by
  refine returnsInHanded_of_change (C := Try.checked) own started (by kernel_rfl) Try.func5
    (ChangeSpec.witness6 (enc := enc) (C := Try.checked) false ⟨#[], #[.int .i64 0, .int .i64 0, .int .i64 0, .slice none 0 0], []⟩ 8 (by kernel_rfl) (by kernel_rfl) (by kernel_rfl) (by kernel_rfl)) ?_
  intro W base args ds gs before hval0 hW hcnd _
  have hval : ∀ (j : Nat) t v, Try.f5.params[j]? = some t → args[j]? = some v → Value.okWide Try.prog W .any base t v := hval0
  have hW' := hW
  obtain ⟨p, q, hA0, hV, rfl, hfz, hnd⟩ := hW
  have hA : DataW.TrodAll enc Try.prog W 0 (fun _ => true) true Try.f5.params.toList args.toList ds p := hA0
  rw [Try.params5] at hA hval
  obtain ⟨v0, vs0, d0, ds0, p0, q0, hargs, rfl, rfl, h0, r0⟩ := trodAll_cons hA
  obtain ⟨v1, vs1, d1, ds1, p1, q1, rfl, rfl, rfl, h1, r1⟩ := trodAll_cons r0
  obtain ⟨v2, vs2, d2, ds2, p2, q2, rfl, rfl, rfl, h2, r2⟩ := trodAll_cons r1
  obtain ⟨v3, vs3, d3, ds3, p3, q3, rfl, rfl, rfl, h3, r3⟩ := trodAll_cons r2
  obtain ⟨rfl, rfl, rfl⟩ := trodAll_nil r3
  obtain rfl : args = #[v0, v1, v2, v3] := by cases args; simp_all
  obtain ⟨rfl, rfl⟩ := trodVars_none hV
  obtain ⟨a0, rfl, rfl, rfl, w0⟩ := open_int Try.underlying3 (hval 0 3 v0 rfl rfl) h0
  obtain ⟨a1, rfl, rfl, rfl, w1⟩ := open_int Try.underlying3 (hval 1 3 v1 rfl rfl) h1
  obtain ⟨a2, rfl, rfl, rfl, w2⟩ := open_int Try.underlying3 (hval 2 3 v2 rfl rfl) h2
  obtain ⟨a3, len3, cap3, rfl⟩ := okWide_slice Try.underlying31 (hval 3 31 v3 rfl rfl)
  have k3 := h3
  have lt3 : ∀ x ∈ p3, x.block < W.heap.size := by obtain ⟨m, hm⟩ := k3; exact DataW.trod_lt m _ _ _ hm
  obtain ⟨z3, w3⟩ := ints_open Try.underlying31 Try.underlying3 (by kernel_rfl) h3
  clear hA0 hval0
  refine (walk a0 a1 a2 a3 len3 cap3 W w0 w1 w2 z3 w3).mono fun e W' ⟨he, bel⟩ => ?_
  subst he
  exact ⟨_, rfl, _, _, _, [], _, [], hW', trodAll_mk1 (shut_bool Try.underlying4 _), (trodAll_cons_mk (shut_int Try.underlying3 w0) (trodAll_cons_mk (shut_int Try.underlying3 w1) (trodAll_cons_mk (shut_int Try.underlying3 w2) (trodAll_cons_mk (Below.trod laidOut (by kernel_rfl) (of_decide_eq_true (by kernel_rfl)) k3 bel lt3) trodAll_mk0)))), rfl, bel.frame _, fun h => by cases h⟩

theorem over : Rows.rtoBoundsRow.holds Try.pinned (OpenSpec.ofChange Rows.rtoBoundsSpec) :=
  OpenClaim.holds_of_wide 5 Try.f5 rfl rfl rfl rfl rfl rfl rfl ⟨rfl, rfl, rfl, rfl, rfl⟩ rfl rfl rfl rfl rfl (by kernel_rfl) Try.func5 (by kernel_rfl)
    (of_decide_eq_true (by kernel_rfl)) (by unfold Func.isWrapper; first | (rw [if_pos (by decide +kernel)]; kernel_rfl) | (rw [if_neg (by decide +kernel)]; exact ⟨rfl, rfl⟩))
    (fun os started H enc _ => lifted os started H enc)

theorem proved : Rows.RtoBoundsSaid := over
#print axioms proved
end Go.Proofs.Ytcaifpjcgdpekaa.rtoBounds
