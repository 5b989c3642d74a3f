/- Proved: the statement Rows.RbufKnownSaid: for every input the Go function blockyardlaw12.RbufKnown returns true and leaves its arguments as they were. Conditions: none beyond the row's own. -/
import Derived.Test.YtjfamjaebehieaaRows
import Derived.Test.YtjfamjaebehieaaRbufAux
import Derived.WalkKit
import Derived.ProofKit
import Derived.OpenShut
import Derived.ShutString
import Derived.ChangeOld
import Derived.Below
namespace Go.Proofs.Ytjfamjaebehieaa.rbufKnown
open Go.ChangeShapes Go.WideShapes Go.ChangeAt Go.RowKit
open Go.ChangeMaps (open_string shut_string)
set_option linter.unusedVariables false

theorem own : ownKnob Try.prog.godebug = none := by kernel_rfl
theorem laidOut : laidOutB Try.prog = true := by kernel_rfl


set_option maxRecDepth 100000 in
set_option maxHeartbeats 2000000 in
theorem walk (w : World) : Calls Try.prog 4 #[] w fun e w' => e = .returned (.bool true) ∧ Below w.heap.size w w' := by
  go_enter Try.func4, Try.ntmps4
  go_wp2_with fail
  refine (rat_new 10 8 _ (by decide) (by decide) (by decide) (by decide)).mono ?_
  rintro e w0 ⟨g, rfl, h0⟩
  rw [show RB.start 8 10 = (RB.mk 8 10 [] [0, 0, 0, 0, 0, 0, 0, 0] [false, false, false, false, false, false, false, false] 0) from rfl] at h0
  go_wp2_with fail
  refine (rat_put 12 [99, 100] _ (by decide) h0).mono ?_
  rintro e w1 ⟨rfl, h1⟩
  clear h0
  rw [show RB.put (RB.mk 8 10 [] [0, 0, 0, 0, 0, 0, 0, 0] [false, false, false, false, false, false, false, false] 0) 12 [99, 100] = (RB.mk 8 10 [] [0, 0, 99, 100, 0, 0, 0, 0] [false, false, true, true, false, false, false, false] 2) from by decide +kernel] at h1
  rw [show RB.putN (RB.mk 8 10 [] [0, 0, 0, 0, 0, 0, 0, 0] [false, false, false, false, false, false, false, false] 0) 12 [99, 100] = 0 from by decide +kernel]
  go_wp2_with fail
  refine (rat_ready _ h1).mono ?_
  rintro e w' ⟨rfl, rfl⟩
  go_wp2_with fail
  refine (rat_held _ h1).mono ?_
  rintro e w' ⟨rfl, rfl⟩
  go_wp2_with fail
  refine (rat_put 10 [97, 98] _ (by decide) h1).mono ?_
  rintro e w2 ⟨rfl, h2⟩
  clear h1
  rw [show RB.put (RB.mk 8 10 [] [0, 0, 99, 100, 0, 0, 0, 0] [false, false, true, true, false, false, false, false] 2) 10 [97, 98] = (RB.mk 8 14 [97, 98, 99, 100] [0, 0, 0, 0, 0, 0, 0, 0] [false, false, false, false, false, false, false, false] 0) from by decide +kernel] at h2
  rw [show RB.putN (RB.mk 8 10 [] [0, 0, 99, 100, 0, 0, 0, 0] [false, false, true, true, false, false, false, false] 2) 10 [97, 98] = 4 from by decide +kernel]
  go_wp2_with fail
  refine (rat_next _ h2).mono ?_
  rintro e w' ⟨rfl, rfl⟩
  go_wp2_with fail
  refine (rat_read 3 _ h2).mono ?_
  rintro e w3 ⟨rfl, h3⟩
  clear h2
  rw [show RB.read (RB.mk 8 14 [97, 98, 99, 100] [0, 0, 0, 0, 0, 0, 0, 0] [false, false, false, false, false, false, false, false] 0) 3 = (RB.mk 8 14 [100] [0, 0, 0, 0, 0, 0, 0, 0] [false, false, false, false, false, false, false, false] 0) from rfl] at h3
  rw [show List.take (RB.take (RB.mk 8 14 [97, 98, 99, 100] [0, 0, 0, 0, 0, 0, 0, 0] [false, false, false, false, false, false, false, false] 0) 3) (RB.mk 8 14 [97, 98, 99, 100] [0, 0, 0, 0, 0, 0, 0, 0] [false, false, false, false, false, false, false, false] 0).ready = [97, 98, 99] from rfl]
  go_wp2_with fail
  refine (rat_window _ h3).mono ?_
  rintro e w4 ⟨rfl, d4⟩
  have h4 := h3.drw d4
  clear h3 d4
  rw [show RB.win (RB.mk 8 14 [100] [0, 0, 0, 0, 0, 0, 0, 0] [false, false, false, false, false, false, false, false] 0) = 7 from by decide]
  go_wp2_with fail
  refine (rat_put 14 [101, 102, 103, 104, 105, 106, 107, 108] _ (by decide) h4).mono ?_
  rintro e w5 ⟨rfl, h5⟩
  clear h4
  rw [show RB.put (RB.mk 8 14 [100] [0, 0, 0, 0, 0, 0, 0, 0] [false, false, false, false, false, false, false, false] 0) 14 [101, 102, 103, 104, 105, 106, 107, 108] = (RB.mk 8 21 [100, 101, 102, 103, 104, 105, 106, 107] [0, 102, 103, 104, 105, 106, 107, 0] [false, false, false, false, false, false, false, false] 0) from by decide +kernel] at h5
  rw [show RB.putN (RB.mk 8 14 [100] [0, 0, 0, 0, 0, 0, 0, 0] [false, false, false, false, false, false, false, false] 0) 14 [101, 102, 103, 104, 105, 106, 107, 108] = 7 from by decide +kernel]
  go_wp2_with fail
  refine (rat_read 99 _ h5).mono ?_
  rintro e w6 ⟨rfl, h6⟩
  clear h5
  rw [show RB.read (RB.mk 8 21 [100, 101, 102, 103, 104, 105, 106, 107] [0, 102, 103, 104, 105, 106, 107, 0] [false, false, false, false, false, false, false, false] 0) 99 = (RB.mk 8 21 [] [0, 102, 103, 104, 105, 106, 107, 0] [false, false, false, false, false, false, false, false] 0) from rfl] at h6
  rw [show List.take (RB.take (RB.mk 8 21 [100, 101, 102, 103, 104, 105, 106, 107] [0, 102, 103, 104, 105, 106, 107, 0] [false, false, false, false, false, false, false, false] 0) 99) (RB.mk 8 21 [100, 101, 102, 103, 104, 105, 106, 107] [0, 102, 103, 104, 105, 106, 107, 0] [false, false, false, false, false, false, false, false] 0).ready = [100, 101, 102, 103, 104, 105, 106, 107] from rfl]
  go_wp2_with fail
  refine (rat_put 9 [120, 121, 122] _ (by decide) h6).mono ?_
  rintro e w7 ⟨rfl, h7⟩
  clear h6
  rw [show RB.put (RB.mk 8 21 [] [0, 102, 103, 104, 105, 106, 107, 0] [false, false, false, false, false, false, false, false] 0) 9 [120, 121, 122] = (RB.mk 8 21 [] [0, 102, 103, 104, 105, 106, 107, 0] [false, false, false, false, false, false, false, false] 0) from by decide +kernel] at h7
  rw [show RB.putN (RB.mk 8 21 [] [0, 102, 103, 104, 105, 106, 107, 0] [false, false, false, false, false, false, false, false] 0) 9 [120, 121, 122] = 0 from by decide +kernel]
  go_wp2_with fail
  refine (rnew_bad 0 2049 _ (by decide)).mono ?_
  rintro e w' ⟨rfl, rfl⟩
  go_wp2_with fail
  refine (rnew_bad 0 0 _ (by decide)).mono ?_
  rintro e w' ⟨rfl, rfl⟩
  go_wp2_with fail
  refine (awake_any _).mono ?_
  rintro e w8 ⟨rfl, f8⟩
  have h8 := h7.frm f8
  clear h7 f8
  go_wp2_with fail
  refine (rat_window _ h8).mono ?_
  rintro e w9 ⟨rfl, d9⟩
  have h9 := h8.drw d9
  clear h8 d9
  rw [show RB.win (RB.mk 8 21 [] [0, 102, 103, 104, 105, 106, 107, 0] [false, false, false, false, false, false, false, false] 0) = 8 from by decide]
  go_wp2_with fail
  refine (rat_next _ h9).mono ?_
  rintro e w' ⟨rfl, rfl⟩
  go_wp2_with fail
  refine (rat_read 0 _ h9).mono ?_
  rintro e w10 ⟨rfl, h10⟩
  clear h9
  rw [show RB.read (RB.mk 8 21 [] [0, 102, 103, 104, 105, 106, 107, 0] [false, false, false, false, false, false, false, false] 0) 0 = (RB.mk 8 21 [] [0, 102, 103, 104, 105, 106, 107, 0] [false, false, false, false, false, false, false, false] 0) from rfl] at h10
  rw [show List.take (RB.take (RB.mk 8 21 [] [0, 102, 103, 104, 105, 106, 107, 0] [false, false, false, false, false, false, false, false] 0) 0) (RB.mk 8 21 [] [0, 102, 103, 104, 105, 106, 107, 0] [false, false, false, false, false, false, false, false] 0).ready = [] from rfl]
  go_wp2_with fail
  go_ret
  exact ⟨rfl, h10.below⟩

set_option maxRecDepth 100000 in
theorem lifted (os : Os) (started : os.Started) (H : Type) (enc : TypeId × Value → H) :
    ReturnsInHanded {} Try.checked os 4 .any (Rows.rbufKnownSpec.pre6 enc Try.prog Try.f4 Rows.rbufKnownRow.domain false) (Rows.rbufKnownSpec.post enc Try.prog Try.f4 false true false false) := by
  refine returnsInHanded_of_change (C := Try.checked) own started (by kernel_rfl) Try.func4
    (ChangeSpec.witness6 (enc := enc) (C := Try.checked) false ⟨#[], #[], []⟩ 8 (by kernel_rfl) (by kernel_rfl) (by kernel_rfl) (by kernel_rfl)) ?_
  intro W base args ds gs before hval0 hW hcnd _
  have hval : ∀ (j : Nat) t v, Try.f4.params[j]? = some t → args[j]? = some v → Value.okWide Try.prog W .any base t v := hval0
  have hW' := hW
  obtain ⟨p, q, hA0, hV, rfl, hfz, hnd⟩ := hW
  have hA : DataW.TrodAll enc Try.prog W 0 (fun _ => true) true Try.f4.params.toList args.toList ds p := hA0
  rw [Try.params4] at hA hval

  obtain ⟨rfl, rfl, rfl⟩ := trodAll_none hA
  obtain ⟨rfl, rfl⟩ := trodVars_none hV

  clear hA0 hval0
  refine (walk W).mono fun e W' ⟨he, bel⟩ => ?_
  subst he
  exact ⟨_, rfl, _, _, _, [], _, [], hW', trodAll_mk1 (shut_bool Try.underlying4 _), trodAll_mk0, rfl, bel.frame _, fun h => by cases h⟩

theorem over : Rows.rbufKnownRow.holds Try.pinned (OpenSpec.ofChange Rows.rbufKnownSpec) :=
  OpenClaim.holds_of_wide 4 Try.f4 rfl rfl rfl rfl rfl rfl rfl ⟨rfl, rfl, rfl, rfl, rfl⟩ rfl rfl rfl rfl rfl (by kernel_rfl) Try.func4 (by kernel_rfl)
    (of_decide_eq_true (by kernel_rfl)) (by unfold Func.isWrapper; first | (rw [if_pos (by decide +kernel)]; kernel_rfl) | (rw [if_neg (by decide +kernel)]; exact ⟨rfl, rfl⟩))
    (fun os started H enc _ => lifted os started H enc)

theorem proved : Rows.RbufKnownSaid := over
#print axioms proved
end Go.Proofs.Ytjfamjaebehieaa.rbufKnown
