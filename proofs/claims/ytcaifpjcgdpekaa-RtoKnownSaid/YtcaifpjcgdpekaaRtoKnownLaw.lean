/- Proved: the statement Rows.RtoKnownSaid: for every input the Go function blockyardlaw14.RtoKnown returns true and leaves its arguments as they were. Conditions: none beyond the row's own. -/
import Derived.Test.YtcaifpjcgdpekaaRows
import Derived.Test.YtcaifpjcgdpekaaRtoAux
import Derived.WalkKit
import Derived.ProofKit
import Derived.OpenShut
import Derived.ShutString
import Derived.ChangeOld
import Derived.Below
namespace Go.Proofs.Ytcaifpjcgdpekaa.rtoKnown
open Go.ChangeShapes Go.WideShapes Go.ChangeAt Go.RowKit
open Go.ChangeMaps (open_string shut_string)
set_option linter.unusedVariables false

theorem own : ownKnob Try.prog.godebug = none := by kernel_rfl
theorem laidOut : laidOutB Try.prog = true := by kernel_rfl


set_option maxRecDepth 100000 in
set_option maxHeartbeats 2000000 in
theorem walk (w : World) : Calls Try.prog 3 #[] w fun e w' => e = .returned (.bool true) ∧ Below w.heap.size w w' := by
  have o1 : (Clk.start 30 2 60).Ok := Clk.start_ok (by decide) (by decide) (by decide) (by decide)
  obtain ⟨c1, d1⟩ : ∃ c, c = Clk.start 30 2 60 := ⟨_, rfl⟩
  obtain ⟨c2, d2⟩ : ∃ c, c = c1.measure 10 := ⟨_, rfl⟩
  obtain ⟨c3, d3⟩ : ∃ c, c = c2.measure 10 := ⟨_, rfl⟩
  obtain ⟨c4, d4⟩ : ∃ c, c = c3.back := ⟨_, rfl⟩
  obtain ⟨c5, d5⟩ : ∃ c, c = c4.measure 2 := ⟨_, rfl⟩
  rw [← d1] at o1
  have o2 : c2.Ok := by rw [d2]; exact o1.measure 10
  have o3 : c3.Ok := by rw [d3]; exact o2.measure 10
  have o4 : c4.Ok := by rw [d4]; exact o3.back
  have o5 : c5.Ok := by rw [d5]; exact o4.measure 2
  have m1 : c1.most ≠ 0 := by rw [d1]; decide
  have m2 : c2.most ≠ 0 := by rw [d2, d1]; decide
  have m3 : c3.most ≠ 0 := by rw [d3, d2, d1]; decide
  have m4 : c4.most ≠ 0 := by rw [d4, d3, d2, d1]; decide
  have m5 : c5.most ≠ 0 := by rw [d5, d4, d3, d2, d1]; decide
  have r1 : c1.wait = 30 := by rw [d1]; rfl
  have r2 : c2.wait = 30 := by rw [d2, d1]; rfl
  have r3 : c3.wait = 25 := by rw [d3, d2, d1]; rfl
  have r4 : c4.wait = 50 := by rw [d4, d3, d2, d1]; rfl
  have r5 : c5.wait = 29 := by rw [d5, d4, d3, d2, d1]; rfl
  have D1 := Lib.hid d1
  have D2 := Lib.hid d2
  have D3 := Lib.hid d3
  have D4 := Lib.hid d4
  have D5 := Lib.hid d5
  clear d1 d2 d3 d4 d5
  go_enter Try.func3, Try.ntmps3
  go_wp2_with fail
  refine (new_ok 30 2 60 _ (by decide) (by decide) (by decide) (by decide)).mono ?_
  rintro e w1 ⟨rfl, hb1, hf1, _⟩
  rw [← D1.out] at hb1
  go_wp2_with fail
  refine (wait_blk _ _ _ m1 hb1).mono ?_
  rintro e w2 ⟨rfl, rfl⟩
  rw [r1]
  go_wp2_with fail
  refine (measure_blk _ _ 10 _ o1 hb1).mono ?_
  rintro e w2 ⟨rfl, hb2, hf2⟩
  rw [← D2.out] at hb2
  go_wp2_with fail
  refine (wait_blk _ _ _ m2 hb2).mono ?_
  rintro e w3 ⟨rfl, rfl⟩
  rw [r2]
  go_wp2_with fail
  refine (measure_blk _ _ 10 _ o2 hb2).mono ?_
  rintro e w3 ⟨rfl, hb3, hf3⟩
  rw [← D3.out] at hb3
  go_wp2_with fail
  refine (wait_blk _ _ _ m3 hb3).mono ?_
  rintro e w4 ⟨rfl, rfl⟩
  rw [r3]
  go_wp2_with fail
  refine (back_blk _ _ _ o3 hb3).mono ?_
  rintro e w4 ⟨rfl, hb4, hf4⟩
  rw [← D4.out] at hb4
  go_wp2_with fail
  refine (wait_blk _ _ _ m4 hb4).mono ?_
  rintro e w5 ⟨rfl, rfl⟩
  rw [r4]
  go_wp2_with fail
  refine (measure_blk _ _ 2 _ o4 hb4).mono ?_
  rintro e w5 ⟨rfl, hb5, hf5⟩
  rw [← D5.out] at hb5
  go_wp2_with fail
  refine (wait_blk _ _ _ m5 hb5).mono ?_
  rintro e w6 ⟨rfl, rfl⟩
  rw [r5]
  go_wp2_with fail
  refine (new_bad 0 0 5 _ (by decide)).mono ?_
  rintro e w6 ⟨rfl, rfl⟩
  go_wp2_with fail
  refine (new_bad 5 6 9 _ (by decide)).mono ?_
  rintro e w6 ⟨rfl, rfl⟩
  go_wp2_with fail
  refine (new_bad 5 5 4 _ (by decide)).mono ?_
  rintro e w6 ⟨rfl, rfl⟩
  go_wp2_with fail
  refine (new_bad 5 5 1048577 _ (by decide)).mono ?_
  rintro e w6 ⟨rfl, rfl⟩
  go_wp2_with fail
  have hf6 : Frm [] w (w5.alloc (.cells #[.int .i64 0, .int .i64 0, .int .i64 0, .int .i64 0, .bool false, .int .i64 0] 29)) :=
    ((((hf1.next1 hf2 (by simp)).next1 hf3 (by simp)).next1 hf4 (by simp)).next1 hf5 (by simp)).alloc _
  have hc6 : ((w5.alloc (.cells #[.int .i64 0, .int .i64 0, .int .i64 0, .int .i64 0, .bool false, .int .i64 0] 29))).cell? ⟨w5.heap.size, 1, none⟩ = some (.int .i64 0) := (Blk.new _ _ _).cell 1
  refine (measure_bare _ 5 _ hc6).mono ?_
  rintro e w6 ⟨rfl, rfl⟩
  go_wp2_with fail
  refine (back_bare _ _ hc6).mono ?_
  rintro e w6 ⟨rfl, rfl⟩
  go_wp2_with fail
  refine (awake_any _).mono ?_
  rintro e w6 ⟨rfl, hf7⟩
  have hc7 : w6.cell? ⟨w5.heap.size, 1, none⟩ = some (.int .i64 0) := ((Blk.new _ _ _).frm hf7 (by simp)).cell 1
  go_wp2_with fail
  refine (wait_bare _ _ hc7).mono ?_
  rintro e w7 ⟨rfl, rfl⟩
  go_wp2_with fail
  go_ret
  exact ⟨rfl, (hf6.next0 hf7).below (Nat.le_refl _) (by simp)⟩

set_option maxRecDepth 100000 in
theorem lifted (os : Os) (started : os.Started) (H : Type) (enc : TypeId × Value → H) :
    ReturnsInHanded {} Try.checked os 3 .any (Rows.rtoKnownSpec.pre6 enc Try.prog Try.f3 Rows.rtoKnownRow.domain false) (Rows.rtoKnownSpec.post enc Try.prog Try.f3 false true false false) := by
  refine returnsInHanded_of_change (C := Try.checked) own started (by kernel_rfl) Try.func3
    (ChangeSpec.witness6 (enc := enc) (C := Try.checked) false ⟨#[], #[], []⟩ 8 (by kernel_rfl) (by kernel_rfl) (by kernel_rfl) (by kernel_rfl)) ?_
  intro W base args ds gs before hval0 hW hcnd _
  have hval : ∀ (j : Nat) t v, Try.f3.params[j]? = some t → args[j]? = some v → Value.okWide Try.prog W .any base t v := hval0
  have hW' := hW
  obtain ⟨p, q, hA0, hV, rfl, hfz, hnd⟩ := hW
  have hA : DataW.TrodAll enc Try.prog W 0 (fun _ => true) true Try.f3.params.toList args.toList ds p := hA0
  rw [Try.params3] at hA hval

  obtain ⟨rfl, rfl, rfl⟩ := trodAll_none hA
  obtain ⟨rfl, rfl⟩ := trodVars_none hV

  clear hA0 hval0
  refine (walk W).mono fun e W' ⟨he, bel⟩ => ?_
  subst he
  exact ⟨_, rfl, _, _, _, [], _, [], hW', trodAll_mk1 (shut_bool Try.underlying4 _), trodAll_mk0, rfl, bel.frame _, fun h => by cases h⟩

theorem over : Rows.rtoKnownRow.holds Try.pinned (OpenSpec.ofChange Rows.rtoKnownSpec) :=
  OpenClaim.holds_of_wide 3 Try.f3 rfl rfl rfl rfl rfl rfl rfl ⟨rfl, rfl, rfl, rfl, rfl⟩ rfl rfl rfl rfl rfl (by kernel_rfl) Try.func3 (by kernel_rfl)
    (of_decide_eq_true (by kernel_rfl)) (by unfold Func.isWrapper; first | (rw [if_pos (by decide +kernel)]; kernel_rfl) | (rw [if_neg (by decide +kernel)]; exact ⟨rfl, rfl⟩))
    (fun os started H enc _ => lifted os started H enc)

theorem proved : Rows.RtoKnownSaid := over
#print axioms proved
end Go.Proofs.Ytcaifpjcgdpekaa.rtoKnown
