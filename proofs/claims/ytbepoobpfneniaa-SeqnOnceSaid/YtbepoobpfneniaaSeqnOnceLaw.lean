/- Proved: the statement Rows.SeqnOnceSaid: for every input the Go function blockyardlaw11.SeqnOnce returns true and leaves its arguments as they were. Conditions: none beyond the row's own. -/
import Derived.Test.YtbepoobpfneniaaRows
import Derived.Test.YtbepoobpfneniaaSeqnAux
import Derived.WalkKit
import Derived.ProofKit
import Derived.OpenShut
namespace Go.Proofs.Ytbepoobpfneniaa.seqnOnce
open Go.ChangeShapes Go.WideShapes Go.ChangeAt Go.RowKit
set_option linter.unusedVariables false      -- a walk need not use every 'w<i>' (that an integer argument fits its kind)

theorem own : ownKnob Try.prog.godebug = none := by kernel_rfl



theorem walk (a0 : Int) (a1 : Int) (w0 : (Lit.int .u32 a0).wf = true) (w1 : (Lit.int .u32 a1).wf = true) (w : World) :
    Calls Try.prog 7 #[.int .u32 a0, .int .u32 a1] w fun e w' => e = .returned (.bool true) ∧ Grown w w' := by
  obtain ⟨a1', a2'⟩ := u32_of_wf w0
  obtain ⟨b1, b2⟩ := u32_of_wf w1
  clear w0 w1
  by_cases h : a0 = a1
  · subst h
    have e1 : ahd a0 a0 = 0 := by unfold ahd; omega
    have e2 : lessB a0 a0 = false := by unfold lessB; simp
    go_enter Try.func7, Try.ntmps7
    go_wp2_with (first
    | (go_at_call 12; refine (awake_any _).mono ?_; rintro e w' ⟨rfl, rfl⟩)
    | (go_at_call 13; refine (ahead_any _ _ _).mono ?_; rintro e w' ⟨rfl, rfl⟩)
    | (go_at_call 9; refine (less_any _ _ _).mono ?_; rintro e w' ⟨rfl, rfl⟩)
    | (go_at_call 10; refine (in_any _ _ _ _).mono ?_; rintro e w' ⟨rfl, rfl⟩)
    | (go_at_call 11; refine (may_any _ _ _ _ _ (by omega) (by omega)).mono ?_; rintro e w' ⟨rfl, rfl⟩))
    go_ret
    exact ⟨rfl, Grown.refl _⟩
  · have hb : (a0 == a1) = false := by simpa using h
    obtain ⟨x0, x1⟩ := ahd_bd a0 a1
    have ey : ahd a1 a0 = 4294967296 - ahd a0 a1 := by unfold ahd; omega
    have ez : (a0 + ahd a0 a1) % 4294967296 = a1 := by unfold ahd; omega
    have xp : 0 < ahd a0 a1 := by unfold ahd; omega
    by_cases hx : ahd a0 a1 = 2147483648
    · have e2 : lessB a0 a1 = false := by unfold lessB; simp; omega
      have e3 : lessB a1 a0 = false := by unfold lessB; simp; omega
      rw [hx] at ey ez
      clear x0 x1 xp
      go_enter Try.func7, Try.ntmps7
      go_wp2_with (first
    | (go_at_call 12; refine (awake_any _).mono ?_; rintro e w' ⟨rfl, rfl⟩)
    | (go_at_call 13; refine (ahead_any _ _ _).mono ?_; rintro e w' ⟨rfl, rfl⟩)
    | (go_at_call 9; refine (less_any _ _ _).mono ?_; rintro e w' ⟨rfl, rfl⟩)
    | (go_at_call 10; refine (in_any _ _ _ _).mono ?_; rintro e w' ⟨rfl, rfl⟩)
    | (go_at_call 11; refine (may_any _ _ _ _ _ (by omega) (by omega)).mono ?_; rintro e w' ⟨rfl, rfl⟩))
      go_ret
      exact ⟨rfl, Grown.refl _⟩
    · have hx' : (ahd a0 a1 == 2147483648) = false := by simpa using hx
      have e2 : lessB a0 a1 = decide (ahd a0 a1 < 2147483648) := by unfold lessB; simp [h]
      have e3 : lessB a1 a0 = !decide (ahd a0 a1 < 2147483648) := by unfold lessB; rw [ey, ← decide_not, decide_eq_decide]; omega
      have e4 : decide (ahd a0 a1 < 4294967296 - ahd a0 a1) = decide (ahd a0 a1 < 2147483648) := by rw [decide_eq_decide]; omega
      clear hx
      rcases Int.lt_or_le (ahd a0 a1) 2147483648 with hlt | hlt
      · have d : decide (ahd a0 a1 < 2147483648) = true := by simpa using hlt
        rw [d] at e2 e3 e4
        clear d
        go_enter Try.func7, Try.ntmps7
        go_wp2_with (first
    | (go_at_call 12; refine (awake_any _).mono ?_; rintro e w' ⟨rfl, rfl⟩)
    | (go_at_call 13; refine (ahead_any _ _ _).mono ?_; rintro e w' ⟨rfl, rfl⟩)
    | (go_at_call 9; refine (less_any _ _ _).mono ?_; rintro e w' ⟨rfl, rfl⟩)
    | (go_at_call 10; refine (in_any _ _ _ _).mono ?_; rintro e w' ⟨rfl, rfl⟩)
    | (go_at_call 11; refine (may_any _ _ _ _ _ (by omega) (by omega)).mono ?_; rintro e w' ⟨rfl, rfl⟩))
        go_ret
        exact ⟨rfl, Grown.refl _⟩
      · have d : decide (ahd a0 a1 < 2147483648) = false := by simp; omega
        rw [d] at e2 e3 e4
        clear d
        go_enter Try.func7, Try.ntmps7
        go_wp2_with (first
    | (go_at_call 12; refine (awake_any _).mono ?_; rintro e w' ⟨rfl, rfl⟩)
    | (go_at_call 13; refine (ahead_any _ _ _).mono ?_; rintro e w' ⟨rfl, rfl⟩)
    | (go_at_call 9; refine (less_any _ _ _).mono ?_; rintro e w' ⟨rfl, rfl⟩)
    | (go_at_call 10; refine (in_any _ _ _ _).mono ?_; rintro e w' ⟨rfl, rfl⟩)
    | (go_at_call 11; refine (may_any _ _ _ _ _ (by omega) (by omega)).mono ?_; rintro e w' ⟨rfl, rfl⟩))
        go_ret
        exact ⟨rfl, Grown.refl _⟩

set_option maxRecDepth 100000 in
theorem lifted (os : Os) (started : os.Started) (H : Type) (enc : TypeId × Value → H) :
    ReturnsInHanded {} Try.checked os 7 .any (Rows.seqnOnceSpec.pre6 enc Try.prog Try.f7 Rows.seqnOnceRow.domain false) (Rows.seqnOnceSpec.post enc Try.prog Try.f7 false true false false) := by
  refine returnsInHanded_of_change (C := Try.checked) own started (by kernel_rfl) Try.func7
    (ChangeSpec.witness6 (enc := enc) (C := Try.checked) false ⟨#[], #[.int .u32 0, .int .u32 0], []⟩ 8 (by kernel_rfl) (by kernel_rfl) (by kernel_rfl) (by kernel_rfl)) ?_
  intro W base args ds gs before hval0 hW hcnd _
  have hval : ∀ (j : Nat) t v, Try.f7.params[j]? = some t → args[j]? = some v → Value.okWide Try.prog W .any base t v := hval0
  have hW' := hW
  obtain ⟨p, q, hA0, hV, rfl, hfz, hnd⟩ := hW
  have hA : DataW.TrodAll enc Try.prog W 0 (fun _ => true) true Try.f7.params.toList args.toList ds p := hA0
  rw [Try.params7] at hA hval
  obtain ⟨v0, vs0, d0, ds0, p0, q0, hargs, rfl, rfl, h0, r0⟩ := trodAll_cons hA
  obtain ⟨v1, vs1, d1, ds1, p1, q1, rfl, rfl, rfl, h1, r1⟩ := trodAll_cons r0
  obtain ⟨rfl, rfl, rfl⟩ := trodAll_nil r1
  obtain rfl : args = #[v0, v1] := by cases args; simp_all
  obtain ⟨rfl, rfl⟩ := trodVars_none hV
  obtain ⟨a0, rfl, rfl, rfl, w0⟩ := open_int Try.underlying23 (hval 0 23 v0 rfl rfl) h0
  obtain ⟨a1, rfl, rfl, rfl, w1⟩ := open_int Try.underlying23 (hval 1 23 v1 rfl rfl) h1
  clear hA0 hval0
  simp only [List.append_nil] at hW'
  refine (walk a0 a1 w0 w1 W).mono fun e W' ⟨he, hg⟩ => ?_
  subst he
  exact ⟨_, rfl, post_of_same (pa := []) (pv := []) hW' (fun _ _ _ => (trodAll_cons_mk (shut_bool Try.underlying4 _) trodAll_mk0)) (fun sp _ => (trodAll_cons_mk (shut_int Try.underlying23 w0) (trodAll_cons_mk (shut_int Try.underlying23 w1) trodAll_mk0))) (fun _ _ => rfl) rfl
    (hg.frame _) hg.2.1 (ok_one (by kernel_rfl) rfl (okWide_bool_mk Try.underlying4 _))⟩

theorem over : Rows.seqnOnceRow.holds Try.pinned (OpenSpec.ofChange Rows.seqnOnceSpec) :=
  OpenClaim.holds_of_wide 7 Try.f7 rfl rfl rfl rfl rfl rfl rfl ⟨rfl, rfl, rfl, rfl, rfl⟩ rfl rfl rfl rfl rfl (by kernel_rfl) Try.func7 (by kernel_rfl)
    (of_decide_eq_true (by kernel_rfl)) (by unfold Func.isWrapper; first | (rw [if_pos (by decide +kernel)]; kernel_rfl) | (rw [if_neg (by decide +kernel)]; exact ⟨rfl, rfl⟩))
    (fun os started H enc _ => lifted os started H enc)

theorem proved : Rows.SeqnOnceSaid :=
  over
#print axioms proved
end Go.Proofs.Ytbepoobpfneniaa.seqnOnce
