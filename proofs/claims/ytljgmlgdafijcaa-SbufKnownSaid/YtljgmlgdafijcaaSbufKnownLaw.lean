/- Proved: the statement Rows.SbufKnownSaid: for every input the Go function blockyardlaw13.SbufKnown returns true and leaves its arguments as they were. Conditions: none beyond the row's own. -/
import Derived.Test.YtljgmlgdafijcaaRows
import Derived.Test.YtljgmlgdafijcaaSbufAux
import Derived.WalkKit
import Derived.ProofKit
import Derived.OpenShut
import Derived.ShutString
import Derived.ChangeOld
import Derived.Below
namespace Go.Proofs.Ytljgmlgdafijcaa.sbufKnown
open Go.ChangeShapes Go.WideShapes Go.ChangeAt Go.RowKit
open Go.ChangeMaps (open_string shut_string)
set_option linter.unusedVariables false

theorem own : ownKnob Try.prog.godebug = none := by kernel_rfl
theorem laidOut : laidOutB Try.prog = true := by kernel_rfl


set_option maxRecDepth 100000 in
set_option maxHeartbeats 2000000 in
theorem walk (w : World) : Calls Try.prog 3 #[] w fun e w' => e = .returned (.bool true) ∧ Below w.heap.size w w' := by
  go_enter Try.func3, Try.ntmps3
  go_wp2_with fail
  refine (snew_ok 4294967294 5 _ (by decide) (by decide)).mono ?_
  rintro e wa ⟨rfl, hb0, hf0⟩
  have ho0 : (SB.mk 5 4294967294 []).Ok := SB.new_ok (by decide) (by decide) (by decide) (by decide)
  have F0 : Frm [] w wa := hf0
  go_wp2_with fail
  refine (swrite_blk _ _ [97, 98, 99, 100, 101, 102, 103] _ ho0 (by decide) hb0).mono ?_
  rintro e w1 ⟨rfl, hb1, hf1⟩
  have E1 : (SB.write (SB.mk 5 4294967294 []) [97, 98, 99, 100, 101, 102, 103]) = (SB.mk 5 4294967294 [97, 98, 99, 100, 101]) := rfl
  have ho1 := ho0.write [97, 98, 99, 100, 101, 102, 103]
  rw [E1] at hb1 ho1
  have F1 := F0.next1 hf1 (.inr (Nat.le_refl _))
  clear hb0 E1 hf1 F0
  rw [show SB.fits (SB.mk 5 4294967294 []) [97, 98, 99, 100, 101, 102, 103] = 5 from by decide]
  go_wp2_with fail
  refine (sget_blk _ _ 2 9 _ ho1 hb1).mono ?_
  rintro e w2 ⟨rfl, d2⟩
  have hb2 := d2.blk hb1
  have ho2 := ho1
  have F2 := d2.next F1
  clear hb1 F1
  rw [show SB.get (SB.mk 5 4294967294 [97, 98, 99, 100, 101]) 2 9 = [101] from by decide]
  go_wp2_with fail
  refine (sget_blk _ _ 3 1 _ ho2 hb2).mono ?_
  rintro e w3 ⟨rfl, d3⟩
  have hb3 := d3.blk hb2
  have ho3 := ho2
  have F3 := d3.next F2
  clear hb2 F2
  rw [show SB.get (SB.mk 5 4294967294 [97, 98, 99, 100, 101]) 3 1 = [] from by decide]
  go_wp2_with fail
  refine (sack_blk _ _ 1 _ ho3 hb3).mono ?_
  rintro e w4 ⟨rfl, hb4, hf4⟩
  have E4 : (SB.ack (SB.mk 5 4294967294 [97, 98, 99, 100, 101]) 1) = (SB.mk 5 1 [100, 101]) := rfl
  have ho4 := ho3.ack (n := 1) (by decide) (by decide)
  rw [E4] at hb4 ho4
  have F4 := F3.next1 hf4 (.inr (Nat.le_refl _))
  clear hb3 E4 hf4 F3
  rw [show SB.gone (SB.mk 5 4294967294 [97, 98, 99, 100, 101]) 1 = 3 from by decide]
  go_wp2_with fail
  refine (sget_blk _ _ 0 1 _ ho4 hb4).mono ?_
  rintro e w5 ⟨rfl, d5⟩
  have hb5 := d5.blk hb4
  have ho5 := ho4
  have F5 := d5.next F4
  clear hb4 F4
  rw [show SB.get (SB.mk 5 1 [100, 101]) 0 1 = [] from by decide]
  go_wp2_with fail
  refine (sack_blk _ _ 1 _ ho5 hb5).mono ?_
  rintro e w6 ⟨rfl, hb6, hf6⟩
  have E6 : (SB.ack (SB.mk 5 1 [100, 101]) 1) = (SB.mk 5 1 [100, 101]) := rfl
  have ho6 := ho5.ack (n := 1) (by decide) (by decide)
  rw [E6] at hb6 ho6
  have F6 := F5.next1 hf6 (.inr (Nat.le_refl _))
  clear hb5 E6 hf6 F5
  rw [show SB.gone (SB.mk 5 1 [100, 101]) 1 = 0 from by decide]
  go_wp2_with fail
  refine (sack_blk _ _ 4 _ ho6 hb6).mono ?_
  rintro e w7 ⟨rfl, hb7, hf7⟩
  have E7 : (SB.ack (SB.mk 5 1 [100, 101]) 4) = (SB.mk 5 1 [100, 101]) := rfl
  have ho7 := ho6.ack (n := 4) (by decide) (by decide)
  rw [E7] at hb7 ho7
  have F7 := F6.next1 hf7 (.inr (Nat.le_refl _))
  clear hb6 E7 hf7 F6
  rw [show SB.gone (SB.mk 5 1 [100, 101]) 4 = 0 from by decide]
  go_wp2_with fail
  refine (swrite_blk _ _ [104, 105, 106] _ ho7 (by decide) hb7).mono ?_
  rintro e w8 ⟨rfl, hb8, hf8⟩
  have E8 : (SB.write (SB.mk 5 1 [100, 101]) [104, 105, 106]) = (SB.mk 5 1 [100, 101, 104, 105, 106]) := rfl
  have ho8 := ho7.write [104, 105, 106]
  rw [E8] at hb8 ho8
  have F8 := F7.next1 hf8 (.inr (Nat.le_refl _))
  clear hb7 E8 hf8 F7
  rw [show SB.fits (SB.mk 5 1 [100, 101]) [104, 105, 106] = 3 from by decide]
  go_wp2_with fail
  refine (snew_bad 0 0 _ (by decide)).mono ?_
  rintro e w' ⟨rfl, rfl⟩
  go_wp2_with fail
  refine (snew_bad 0 2049 _ (by decide)).mono ?_
  rintro e w' ⟨rfl, rfl⟩
  go_wp2_with fail
  refine (awake_any _).mono ?_
  rintro e wz ⟨rfl, hfz⟩
  have hb9 := hb8.frm hfz (by simp)
  have ho9 := ho8
  have F9 := F8.next0 hfz
  clear hb8 F8 hfz
  go_wp2_with fail
  refine (sget_blk _ _ 1 9 _ ho9 hb9).mono ?_
  rintro e w10 ⟨rfl, d10⟩
  have hb10 := d10.blk hb9
  have ho10 := ho9
  have F10 := d10.next F9
  clear hb9 F9
  rw [show SB.get (SB.mk 5 1 [100, 101, 104, 105, 106]) 1 9 = [100, 101, 104, 105, 106] from by decide]
  go_wp2_with fail
  refine (slen_blk _ _ _ ho10 hb10).mono ?_
  rintro e w' ⟨rfl, rfl⟩
  go_wp2_with fail
  refine (sroom_blk _ _ _ ho10 hb10).mono ?_
  rintro e w11 ⟨rfl, d11⟩
  have hb11 := d11.blk hb10
  have ho11 := ho10
  have F11 := d11.next F10
  clear hb10 F10
  go_wp2_with fail
  go_ret
  exact ⟨rfl, F11.below (Nat.le_refl _) (by simp)⟩

set_option maxRecDepth 100000 in
theorem lifted (os : Os) (started : os.Started) (H : Type) (enc : TypeId × Value → H) :
    ReturnsInHanded {} Try.checked os 3 .any (Rows.sbufKnownSpec.pre6 enc Try.prog Try.f3 Rows.sbufKnownRow.domain false) (Rows.sbufKnownSpec.post enc Try.prog Try.f3 false true false false) := by
  refine returnsInHanded_of_change (C := Try.checked) own started (by kernel_rfl) Try.func3
    (ChangeSpec.witness6 (enc := enc) (C := Try.checked) false ⟨#[], #[], []⟩ 8 (by kernel_rfl) (by kernel_rfl) (by kernel_rfl) (by kernel_rfl)) ?_
  intro W base args ds gs before hval0 hW hcnd _
  have hval : ∀ (j : Nat) t v, Try.f3.params[j]? = some t → args[j]? = some v → Value.okWide Try.prog W .any base t v := hval0
  have hW' := hW
  obtain ⟨p, q, hA0, hV, rfl, hfz, hnd⟩ := hW
  have hA : DataW.TrodAll enc Try.prog W 0 (fun _ => true) true Try.f3.params.toList args.toList ds p := hA0
  rw [Try.params3] at hA hval

  obtain ⟨rfl, rfl, rfl⟩ := trodAll_none hA
  obtain ⟨rfl, rfl⟩ := trodVars_none hV

  clear hA0 hval0
  refine (walk W).mono fun e W' ⟨he, bel⟩ => ?_
  subst he
  exact ⟨_, rfl, _, _, _, [], _, [], hW', trodAll_mk1 (shut_bool Try.underlying4 _), trodAll_mk0, rfl, bel.frame _, fun h => by cases h⟩

theorem over : Rows.sbufKnownRow.holds Try.pinned (OpenSpec.ofChange Rows.sbufKnownSpec) :=
  OpenClaim.holds_of_wide 3 Try.f3 rfl rfl rfl rfl rfl rfl rfl ⟨rfl, rfl, rfl, rfl, rfl⟩ rfl rfl rfl rfl rfl (by kernel_rfl) Try.func3 (by kernel_rfl)
    (of_decide_eq_true (by kernel_rfl)) (by unfold Func.isWrapper; first | (rw [if_pos (by decide +kernel)]; kernel_rfl) | (rw [if_neg (by decide +kernel)]; exact ⟨rfl, rfl⟩))
    (fun os started H enc _ => lifted os started H enc)

theorem proved : Rows.SbufKnownSaid := over
#print axioms proved
end Go.Proofs.Ytljgmlgdafijcaa.sbufKnown
