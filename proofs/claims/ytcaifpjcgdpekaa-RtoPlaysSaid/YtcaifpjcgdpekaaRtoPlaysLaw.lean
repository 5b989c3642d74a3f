/- Proved: the statement Rows.RtoPlaysSaid: for every input the Go function blockyardlaw14.RtoPlays returns true and leaves its arguments as they were. Conditions: none beyond the row's own. -/
import Derived.Test.YtcaifpjcgdpekaaRows
import Derived.Test.YtcaifpjcgdpekaaRtoAux
import Derived.WalkKit
import Derived.ProofKit
import Derived.OpenShut
import Derived.ShutString
import Derived.ChangeOld
import Derived.Below
namespace Go.Proofs.Ytcaifpjcgdpekaa.rtoPlays
open Go.ChangeShapes Go.WideShapes Go.ChangeAt Go.RowKit
open Go.ChangeMaps (open_string shut_string)
set_option linter.unusedVariables false

theorem own : ownKnob Try.prog.godebug = none := by kernel_rfl
theorem laidOut : laidOutB Try.prog = true := by kernel_rfl

theorem bad_of {first least most : Int} (h : ¬ (1 ≤ least ∧ least ≤ first ∧ first ≤ most ∧ most ≤ 1048576)) : least < 1 ∨ first < least ∨ most < first ∨ 1048576 < most := by omega
def RP (g1 g2 : Nat) (w wr : World) (c : Clk) : Prop := c.Ok ∧ Blk wr g1 29 c.cells ∧ Blk wr g2 33 c.cells ∧ Frm [] w wr
set_option maxRecDepth 100000 in
set_option maxHeartbeats 2000000 in
theorem walk (a0 : Int) (a1 : Int) (a2 : Int) (a3 : Option Addr) (len3 cap3 : Nat) (w : World) (w0 : (Lit.int .i64 a0).wf = true) (w1 : (Lit.int .i64 a1).wf = true) (w2 : (Lit.int .i64 a2).wf = true) (z3 : List Int) (w3 : Ints .i64 w a3 len3 cap3 z3) : Calls Try.prog 4 #[.int .i64 a0, .int .i64 a1, .int .i64 a2, .slice a3 len3 cap3] w fun e w' => e = .returned (.bool true) ∧ Below w.heap.size w w' := by
  obtain ⟨hxl, hlc, hcm, hxw, hxc⟩ := w3
  have hlm : cap3 ≤ 9223372036854775807 := hcm
  clear w0 w1 w2 hcm
  by_cases hbig : 400 < len3
  · go_enter Try.func4, Try.ntmps4
    go_wp2_with (go_at_call 11; refine (awake_any _).mono ?_; rintro e w1 ⟨rfl, hf1⟩)
    go_ret
    exact ⟨rfl, hf1.below (Nat.le_refl _) (by simp)⟩
  by_cases hok : 1 ≤ a1 ∧ a1 ≤ a0 ∧ a0 ≤ a2 ∧ a2 ≤ 1048576
  · obtain ⟨k1, k2, k3, k4⟩ := hok
    have ok0 := Clk.start_ok k1 k2 k3 k4
    go_enter Try.func4, Try.ntmps4
    go_wp2_with (go_at_call 11; refine (awake_any _).mono ?_; rintro e w1 ⟨rfl, hf1⟩)
    refine (new_ok a0 a1 a2 _ k1 k2 k3 k4).mono ?_
    rintro e w2 ⟨rfl, hb2, hf2, hs2⟩
    go_wp2_with fail
    refine (rnew_ok a0 a1 a2 _ k1 k2 k3 k4).mono ?_
    rintro e w3 ⟨rfl, hf3⟩
    have hb3 := hb2.frm hf3 (by simp)
    simp only [Clk.start, Clk.cells] at hb3 ⊢
    go_wp2_with fail
    have hlt1 : w1.heap.size < w3.heap.size := hb3.lt
    have hlt0 : w.heap.size ≤ w1.heap.size := hf1.size
    have hne : w1.heap.size ≠ w3.heap.size := by omega
    have hrp0 : RP w1.heap.size w3.heap.size w (w3.alloc (.cells #[.int .i64 a1, .int .i64 a2, .int .i64 0, .int .i64 0, .bool false, .int .i64 a0] 33)) (Clk.start a0 a1 a2) :=
      ⟨ok0, hb3.alloc _, Blk.new _ _ _, ((hf1.next0 hf2).next0 hf3).alloc _⟩
    clear hb2 hb3 hf2 hf3 hs2 hf1
    generalize hG1 : w1.heap.size = G1 at *
    generalize hG2 : w3.heap.size = G2 at *
    clear hG1 hG2
    go_loopw [13] (fun i wr => ∃ (k : Nat) (c : Clk), k ≤ len3 ∧ i = .int .i64 (k : Int) ∧ RP G1 G2 w wr c) (fun i _ => len3 - (intOf i).toNat)
    case atStart => exact ⟨0, _, by omega, rfl, hrp0⟩
    case round =>
      clear hrp0
      obtain ⟨k, c, hk, rfl, hok, hb1, hb2, hfr⟩ := hrel
      have hm0 : c.most ≠ 0 := by have := hok.l1; have := hok.l2; have := hok.l3; omega
      by_cases hlt : k < len3
      · obtain ⟨b, o, rfl, hbl, hcell⟩ := hxc (by omega)
        have hc := (hfr.cell (p := ⟨b, o + k, none⟩) hbl (by simp)).trans (hcell k hlt)
        clear hcell
        generalize hX : z3.getD k 0 = X at hc
        clear hX
        rcases hx2 : (X.tmod 2 == 0) with _ | _
        · go_wp2_with fail
          have hok' := hok.back
          refine (back_blk G1 c _ hok hb1).mono ?_
          rintro e wa ⟨rfl, hba, hfa⟩
          have hb3 := hb2.frm hfa (by simpa using fun e => hne e.symm)
          clear hb1 hb2
          obtain ⟨q0, q1, q2, q3, q4, q5⟩ := Clk.at_ hb3
          go_wp2_with fail
          refine (rback_any c _ hok).mono ?_
          rintro e wb ⟨rfl, hfb⟩
          have hb4 := hba.frm hfb (by simp)
          have hb5 := hb3.frm hfb (by simp)
          have hfr2 := (hfr.next1 hfa (.inr hlt0)).next0 hfb
          generalize hC : c.back = c' at *
          have HC := Lib.hid hC
          clear hC q0 q1 q2 q3 q4 q5 hba hb3 hfa hfb hc
          obtain ⟨rc, rf⟩ := hb5.rules
          obtain ⟨dl, dm, dm', dv, db, dw⟩ := c'
          simp only [Clk.cells] at hb4 hb5 rc ⊢
          go_wp2_with fail
          refine wp_world (fun wz => RP G1 G2 w wz ⟨dl, dm, dm', dv, db, dw⟩) ⟨hok', ?_, ?_, ?_⟩ ?_
          · repeat (refine Blk.far ?_ (by simpa using hne) _)
            exact hb4
          · refine ((((((hb5.set_ 0 _).set_ 1 _).set_ 2 _).set_ 3 _).set_ 4 _).set_ 5 _).as_ ?_
            rfl
          · repeat (refine Frm.setCell ?_ (.inr (by simp; omega)) _)
            exact hfr2
          clear hb4 hb5 hfr2 rc rf
          rintro wz ⟨hok2, hb6, hb7, hf7⟩
          have hc5 : wz.cell? ⟨G2, 5, none⟩ = some (.int .i64 dw) := hb7.cell 5
          have hm9 : (Clk.mk dl dm dm' dv db dw).most ≠ 0 := by have := hok2.l1; have := hok2.l2; have := hok2.l3; omega
          go_quiet ((go_at_call 8; exact quiet_left (wait_blk G1 _ _ hm9 (hb6.drewN _))))
          go_wp2_with fail
          go_roundw
          case rel => exact ⟨k + 1, _, by omega, by go_num, hok2, hb6.drewN _, hb7.drewN _, hf7.drewN _⟩
          case measure => simp [intOf]; omega
        · go_wp2_with fail
          have hok' := hok.measure (wrap64 (X.tdiv 2))
          refine (measure_blk G1 c _ _ hok hb1).mono ?_
          rintro e wa ⟨rfl, hba, hfa⟩
          have hb3 := hb2.frm hfa (by simpa using fun e => hne e.symm)
          clear hb1 hb2
          obtain ⟨q0, q1, q2, q3, q4, q5⟩ := Clk.at_ hb3
          have hca := (hfa.cell (p := ⟨b, o + k, none⟩) (by have := hfr.size; simp only; omega) (by simp; omega)).trans hc
          clear hc
          go_wp2_with fail
          go_still_tail 6, (by kernel_rfl)
          go_wp2_with fail
          refine (rmeasure_any c _ _ hok).mono ?_
          rintro e wb ⟨rfl, hfb⟩
          have hb4 := hba.drew.frm hfb (by simp)
          have hb5 := hb3.drew.frm hfb (by simp)
          have hfr2 := (hfr.next1 hfa (.inr hlt0)).drew.next0 hfb
          generalize hC : c.measure (wrap64 (X.tdiv 2)) = c' at *
          have HC := Lib.hid hC
          clear hC q0 q1 q2 q3 q4 q5 hba hb3 hfa hfb hca
          obtain ⟨rc, rf⟩ := hb5.rules
          obtain ⟨dl, dm, dm', dv, db, dw⟩ := c'
          simp only [Clk.cells] at hb4 hb5 rc ⊢
          go_wp2_with fail
          refine wp_world (fun wz => RP G1 G2 w wz ⟨dl, dm, dm', dv, db, dw⟩) ⟨hok', ?_, ?_, ?_⟩ ?_
          · repeat (refine Blk.far ?_ (by simpa using hne) _)
            exact hb4
          · refine ((((((hb5.set_ 0 _).set_ 1 _).set_ 2 _).set_ 3 _).set_ 4 _).set_ 5 _).as_ ?_
            rfl
          · repeat (refine Frm.setCell ?_ (.inr (by simp; omega)) _)
            exact hfr2
          clear hb4 hb5 hfr2 rc rf
          rintro wz ⟨hok2, hb6, hb7, hf7⟩
          have hc5 : wz.cell? ⟨G2, 5, none⟩ = some (.int .i64 dw) := hb7.cell 5
          have hm9 : (Clk.mk dl dm dm' dv db dw).most ≠ 0 := by have := hok2.l1; have := hok2.l2; have := hok2.l3; omega
          go_quiet ((go_at_call 8; exact quiet_left (wait_blk G1 _ _ hm9 (hb6.drewN _))))
          go_wp2_with fail
          go_roundw
          case rel => exact ⟨k + 1, _, by omega, by go_num, hok2, hb6.drewN _, hb7.drewN _, hf7.drewN _⟩
          case measure => simp [intOf]; omega
      · go_wp2_with fail
        go_ret
        exact ⟨rfl, hfr.below (Nat.le_refl _) (by simp)⟩
  · have hbad := bad_of hok
    clear hok
    go_enter Try.func4, Try.ntmps4
    go_wp2_with (go_at_call 11; refine (awake_any _).mono ?_; rintro e w1 ⟨rfl, hf1⟩)
    refine (new_bad a0 a1 a2 _ hbad).mono ?_
    rintro e w2 ⟨rfl, rfl⟩
    go_wp2_with fail
    refine (rnew_bad a0 a1 a2 _ hbad).mono ?_
    rintro e w3 ⟨rfl, hf3⟩
    simp only [Clk.start, Clk.cells]
    go_wp2_with fail
    refine (measure_nil _ _).mono ?_
    rintro e w4 ⟨rfl, rfl⟩
    go_wp2_with fail
    refine (back_nil _).mono ?_
    rintro e w4 ⟨rfl, rfl⟩
    go_wp2_with fail
    refine (wait_nil _).mono ?_
    rintro e w4 ⟨rfl, rfl⟩
    go_wp2_with fail
    go_ret
    exact ⟨rfl, Frm.below (ex := []) (by repeat (first | exact hf1.next0 hf3 | refine Frm.setCell ?_ (.inr (by have := hf1.size; have := hf3.size; simp; omega)) _ | refine Frm.alloc ?_ _)) (Nat.le_refl _) (by simp)⟩

set_option maxRecDepth 100000 in
theorem lifted (os : Os) (started : os.Started) (H : Type) (enc : TypeId × Value → H) :
    ReturnsInHanded {} Try.checked os 4 .any (Rows.rtoPlaysSpec.pre6 enc Try.prog Try.f4 Rows.rtoPlaysRow.domain false) (Rows.rtoPlaysSpec.post enc Try.prog Try.f4 false true false false) := by
  refine returnsInHanded_of_change (C := Try.checked) own started (by kernel_rfl) Try.func4
    (ChangeSpec.witness6 (enc := enc) (C := Try.checked) false ⟨#[], #[.int .i64 0, .int .i64 0, .int .i64 0, .slice none 0 0], []⟩ 8 (by kernel_rfl) (by kernel_rfl) (by kernel_rfl) (by kernel_rfl)) ?_
  intro W base args ds gs before hval0 hW hcnd _
  have hval : ∀ (j : Nat) t v, Try.f4.params[j]? = some t → args[j]? = some v → Value.okWide Try.prog W .any base t v := hval0
  have hW' := hW
  obtain ⟨p, q, hA0, hV, rfl, hfz, hnd⟩ := hW
  have hA : DataW.TrodAll enc Try.prog W 0 (fun _ => true) true Try.f4.params.toList args.toList ds p := hA0
  rw [Try.params4] at hA hval
  obtain ⟨v0, vs0, d0, ds0, p0, q0, hargs, rfl, rfl, h0, r0⟩ := trodAll_cons hA
  obtain ⟨v1, vs1, d1, ds1, p1, q1, rfl, rfl, rfl, h1, r1⟩ := trodAll_cons r0
  obtain ⟨v2, vs2, d2, ds2, p2, q2, rfl, rfl, rfl, h2, r2⟩ := trodAll_cons r1
  obtain ⟨v3, vs3, d3, ds3, p3, q3, rfl, rfl, rfl, h3, r3⟩ := trodAll_cons r2
  obtain ⟨rfl, rfl, rfl⟩ := trodAll_nil r3
  obtain rfl : args = #[v0, v1, v2, v3] := by cases args; simp_all
  obtain ⟨rfl, rfl⟩ := trodVars_none hV
  obtain ⟨a0, rfl, rfl, rfl, w0⟩ := open_int Try.underlying3 (hval 0 3 v0 rfl rfl) h0
  obtain ⟨a1, rfl, rfl, rfl, w1⟩ := open_int Try.underlying3 (hval 1 3 v1 rfl rfl) h1
  obtain ⟨a2, rfl, rfl, rfl, w2⟩ := open_int Try.underlying3 (hval 2 3 v2 rfl rfl) h2
  obtain ⟨a3, len3, cap3, rfl⟩ := okWide_slice Try.underlying31 (hval 3 31 v3 rfl rfl)
  have k3 := h3
  have lt3 : ∀ x ∈ p3, x.block < W.heap.size := by obtain ⟨m, hm⟩ := k3; exact DataW.trod_lt m _ _ _ hm
  obtain ⟨z3, w3⟩ := ints_open Try.underlying31 Try.underlying3 (by kernel_rfl) h3
  clear hA0 hval0
  refine (walk a0 a1 a2 a3 len3 cap3 W w0 w1 w2 z3 w3).mono fun e W' ⟨he, bel⟩ => ?_
  subst he
  exact ⟨_, rfl, _, _, _, [], _, [], hW', trodAll_mk1 (shut_bool Try.underlying4 _), (trodAll_cons_mk (shut_int Try.underlying3 w0) (trodAll_cons_mk (shut_int Try.underlying3 w1) (trodAll_cons_mk (shut_int Try.underlying3 w2) (trodAll_cons_mk (Below.trod laidOut (by kernel_rfl) (of_decide_eq_true (by kernel_rfl)) k3 bel lt3) trodAll_mk0)))), rfl, bel.frame _, fun h => by cases h⟩

theorem over : Rows.rtoPlaysRow.holds Try.pinned (OpenSpec.ofChange Rows.rtoPlaysSpec) :=
  OpenClaim.holds_of_wide 4 Try.f4 rfl rfl rfl rfl rfl rfl rfl ⟨rfl, rfl, rfl, rfl, rfl⟩ rfl rfl rfl rfl rfl (by kernel_rfl) Try.func4 (by kernel_rfl)
    (of_decide_eq_true (by kernel_rfl)) (by unfold Func.isWrapper; first | (rw [if_pos (by decide +kernel)]; kernel_rfl) | (rw [if_neg (by decide +kernel)]; exact ⟨rfl, rfl⟩))
    (fun os started H enc _ => lifted os started H enc)

theorem proved : Rows.RtoPlaysSaid := over
#print axioms proved
end Go.Proofs.Ytcaifpjcgdpekaa.rtoPlays
