/- Proved: the statement Rows.RtoSteadySaid: for every input the Go function blockyardlaw14.RtoSteady returns true and leaves its arguments as they were. Conditions: none beyond the row's own. -/
import Derived.Test.YtcaifpjcgdpekaaRows
import Derived.Test.YtcaifpjcgdpekaaRtoAux
import Derived.Test.YtcaifpjcgdpekaaRtoPlain
import Derived.WalkKit
import Derived.ProofKit
import Derived.OpenShut
import Derived.ShutString
import Derived.ChangeOld
import Derived.Below
namespace Go.Proofs.Ytcaifpjcgdpekaa.rtoSteady
open Go.ChangeShapes Go.WideShapes Go.ChangeAt Go.RowKit
open Go.ChangeMaps (open_string shut_string)
set_option linter.unusedVariables false

theorem own : ownKnob Try.prog.godebug = none := by kernel_rfl
theorem laidOut : laidOutB Try.prog = true := by kernel_rfl

def RS (g : Nat) (w wr : World) (c : Clk) : Prop := c.Ok ∧ (c.least = 1 ∧ c.most = 1048576) ∧ Blk wr g 29 c.cells ∧ Frm [] w wr
def RN (g : Nat) (w wr : World) (n : Int) (k : Nat) (c : Clk) : Prop := Near n k c ∧ Blk wr g 29 c.cells ∧ Frm [] w wr
set_option maxRecDepth 100000 in
set_option maxHeartbeats 2000000 in
theorem walk (a0 : Option Addr) (len0 cap0 : Nat) (a1 : Int) (w : World) (z0 : List Int) (w0 : Ints .u16 w a0 len0 cap0 z0) (w1 : (Lit.int .u16 a1).wf = true) : Calls Try.prog 6 #[.slice a0 len0 cap0, .int .u16 a1] w fun e w' => e = .returned (.bool true) ∧ Below w.heap.size w w' := by
  obtain ⟨hxl, hlc, hcm, hxw, hxc⟩ := w0
  have hlm : cap0 ≤ 9223372036854775807 := hcm
  obtain ⟨r0, r1⟩ := u16_of_wf w1
  clear hcm w1
  by_cases hbig : 100 < len0
  · have hbig' : decide ((100 : Int) < (len0 : Int)) = true := by simp; omega
    go_enter Try.func6, Try.ntmps6
    go_wp2_with (go_at_call 11; refine (awake_any _).mono ?_; rintro e w1 ⟨rfl, hf1⟩)
    go_ret
    exact ⟨rfl, hf1.below (Nat.le_refl _) (by simp)⟩
  have hbig' : decide ((100 : Int) < (len0 : Int)) = false := by simp; omega
  have ok0 := Clk.start_ok (first := 1) (least := 1) (most := 1048576) (by omega) (by omega) (by omega) (by omega)
  go_enter Try.func6, Try.ntmps6
  go_wp2_with (go_at_call 11; refine (awake_any _).mono ?_; rintro e w1 ⟨rfl, hf1⟩)
  refine (new_ok 1 1 1048576 _ (by omega) (by omega) (by omega) (by omega)).mono ?_
  rintro e w2 ⟨rfl, hb2, hf2, -⟩
  have hrp0 : RS w1.heap.size w w2 (Clk.start 1 1 1048576) := ⟨ok0, ⟨rfl, rfl⟩, hb2, hf1.next0 hf2⟩
  have hlt0 : w.heap.size ≤ w1.heap.size := hf1.size
  clear hb2 hf2 hf1 ok0
  generalize hG1 : w1.heap.size = G1 at *
  clear hG1 hbig'
  go_wp2_with fail
  go_loopw [7] (fun i wr => ∃ (k : Nat) (c : Clk), k ≤ len0 ∧ i = .int .i64 (k : Int) ∧ RS G1 w wr c) (fun i _ => len0 - (intOf i).toNat)
  case atStart => exact ⟨0, _, by omega, rfl, hrp0⟩
  case round =>
    clear hrp0
    obtain ⟨k, c, hk, rfl, hok, hlm2, hb1, hfr⟩ := hrel
    by_cases hlt : k < len0
    · have HLM := Lib.hid hlm2
      clear hlm2
      obtain ⟨b, o, rfl, hbl, hcell⟩ := hxc (by omega)
      have hc := (hfr.cell (p := ⟨b, o + k, none⟩) hbl (by simp)).trans (hcell k hlt)
      clear hcell
      generalize hX : z0.getD k 0 = X at hc
      clear hX
      go_wp2_with fail
      refine (measure_blk G1 c _ _ hok hb1).mono ?_
      rintro e wa ⟨rfl, hba, hfa⟩
      go_wp2_with fail
      go_roundw
      case rel => exact ⟨k + 1, _, by omega, by go_num, hok.measure _, ⟨(measure_least c _).1.trans HLM.out.1, (measure_least c _).2.trans HLM.out.2⟩, hba, hfr.next1 hfa (.inr hlt0)⟩
      case measure => simp [intOf]; omega
    · have hn0 : 0 ≤ a1 % 5001 := by omega
      have hn1 : a1 % 5001 ≤ 5000 := by omega
      have hrn0 : RN G1 w wr (a1 % 5001) 0 c := ⟨near_start _ hok hlm2.1 hlm2.2 hn0 hn1, hb1, hfr⟩
      clear hlm2 hok hb1 hfr
      go_wp2_with fail
      generalize hn : a1 % 5001 = n at *
      clear hn
      obtain ⟨wo, rfl⟩ : ∃ wo : World, wo = wr := ⟨_, rfl⟩
      go_loopw [9] (fun i wr => ∃ (k : Nat) (c : Clk), k ≤ 400 ∧ i = .int .i64 (k : Int) ∧ RN G1 w wr n k c) (fun i _ => 400 - (intOf i).toNat)
      case atStart => exact ⟨0, _, by omega, rfl, hrn0⟩
      case round =>
        clear hrn0
        obtain ⟨k, c, hk, rfl, hnear, hb1, hfr⟩ := hrel
        by_cases hlt2 : k < 400
        · go_wp2_with fail
          refine (measure_blk G1 c _ _ hnear.ok hb1).mono ?_
          rintro e wa ⟨rfl, hba, hfa⟩
          go_wp2_with fail
          go_roundw
          case rel => exact ⟨k + 1, _, by omega, by go_num, near_step hnear hn0 hn1, hba, hfr.next1 hfa (.inr hlt0)⟩
          case measure => simp [intOf]; omega
        · have hk4 : k = 400 := by omega
          subst hk4
          obtain ⟨f1, f2⟩ := near_end hnear hn0 hn1
          have hok := hnear.ok
          have hm1 : c.most ≠ 0 := by have := hok.l1; have := hok.l2; have := hok.l3; omega
          have hmx : (if n < 1 then 1 else n) = max n 1 := by split <;> omega
          have g1 : decide (max n 1 ≤ c.wait) = true := by simpa using f1
          have g2 : decide (c.wait ≤ n + 4) = true := by simpa using f2
          clear hnear hok
          go_wp2_with (go_at_call 8; refine (wait_blk _ _ _ hm1 hb1).mono ?_; rintro e w4 ⟨rfl, rfl⟩)
          go_ret
          exact ⟨rfl, hfr.below (Nat.le_refl _) (by simp)⟩

set_option maxRecDepth 100000 in
theorem lifted (os : Os) (started : os.Started) (H : Type) (enc : TypeId × Value → H) :
    ReturnsInHanded {} Try.checked os 6 .any (Rows.rtoSteadySpec.pre6 enc Try.prog Try.f6 Rows.rtoSteadyRow.domain false) (Rows.rtoSteadySpec.post enc Try.prog Try.f6 false true false false) := by
  refine returnsInHanded_of_change (C := Try.checked) own started (by kernel_rfl) Try.func6
    (ChangeSpec.witness6 (enc := enc) (C := Try.checked) false ⟨#[], #[.slice none 0 0, .int .u16 0], []⟩ 8 (by kernel_rfl) (by kernel_rfl) (by kernel_rfl) (by kernel_rfl)) ?_
  intro W base args ds gs before hval0 hW hcnd _
  have hval : ∀ (j : Nat) t v, Try.f6.params[j]? = some t → args[j]? = some v → Value.okWide Try.prog W .any base t v := hval0
  have hW' := hW
  obtain ⟨p, q, hA0, hV, rfl, hfz, hnd⟩ := hW
  have hA : DataW.TrodAll enc Try.prog W 0 (fun _ => true) true Try.f6.params.toList args.toList ds p := hA0
  rw [Try.params6] at hA hval
  obtain ⟨v0, vs0, d0, ds0, p0, q0, hargs, rfl, rfl, h0, r0⟩ := trodAll_cons hA
  obtain ⟨v1, vs1, d1, ds1, p1, q1, rfl, rfl, rfl, h1, r1⟩ := trodAll_cons r0
  obtain ⟨rfl, rfl, rfl⟩ := trodAll_nil r1
  obtain rfl : args = #[v0, v1] := by cases args; simp_all
  obtain ⟨rfl, rfl⟩ := trodVars_none hV
  obtain ⟨a0, len0, cap0, rfl⟩ := okWide_slice Try.underlying39 (hval 0 39 v0 rfl rfl)
  have k0 := h0
  have lt0 : ∀ x ∈ p0, x.block < W.heap.size := by obtain ⟨m, hm⟩ := k0; exact DataW.trod_lt m _ _ _ hm
  obtain ⟨z0, w0⟩ := ints_open Try.underlying39 Try.underlying40 (by kernel_rfl) h0
  obtain ⟨a1, rfl, rfl, rfl, w1⟩ := open_int Try.underlying40 (hval 1 40 v1 rfl rfl) h1
  clear hA0 hval0
  refine (walk a0 len0 cap0 a1 W z0 w0 w1).mono fun e W' ⟨he, bel⟩ => ?_
  subst he
  exact ⟨_, rfl, _, _, _, [], _, [], hW', trodAll_mk1 (shut_bool Try.underlying4 _), (trodAll_cons_mk (Below.trod laidOut (by kernel_rfl) (of_decide_eq_true (by kernel_rfl)) k0 bel lt0) (trodAll_cons_mk (shut_int Try.underlying40 w1) trodAll_mk0)), rfl, bel.frame _, fun h => by cases h⟩

theorem over : Rows.rtoSteadyRow.holds Try.pinned (OpenSpec.ofChange Rows.rtoSteadySpec) :=
  OpenClaim.holds_of_wide 6 Try.f6 rfl rfl rfl rfl rfl rfl rfl ⟨rfl, rfl, rfl, rfl, rfl⟩ rfl rfl rfl rfl rfl (by kernel_rfl) Try.func6 (by kernel_rfl)
    (of_decide_eq_true (by kernel_rfl)) (by unfold Func.isWrapper; first | (rw [if_pos (by decide +kernel)]; kernel_rfl) | (rw [if_neg (by decide +kernel)]; exact ⟨rfl, rfl⟩))
    (fun os started H enc _ => lifted os started H enc)

theorem proved : Rows.RtoSteadySaid := over
#print axioms proved
end Go.Proofs.Ytcaifpjcgdpekaa.rtoSteady
