/- Proved: the statement Rows.SeqnWindowsSaid: for every input the Go function blockyardlaw11.SeqnWindows returns true and leaves its arguments as they were. Conditions: none beyond the row's own. -/
import Derived.Test.YtbepoobpfneniaaRows
import Derived.Test.YtbepoobpfneniaaSeqnAux
import Derived.WalkKit
import Derived.ProofKit
import Derived.OpenShut
namespace Go.Proofs.Ytbepoobpfneniaa.seqnWindows
open Go.ChangeShapes Go.WideShapes Go.ChangeAt Go.RowKit
set_option linter.unusedVariables false      -- a walk need not use every 'w<i>' (that an integer argument fits its kind)

theorem own : ownKnob Try.prog.godebug = none := by kernel_rfl

theorem in_at (frm n : Int) (k : Nat) (n0 : 0 ≤ n) (n1 : n < 256) (hk : k < 300) : inB ((frm - 20 + k) % 4294967296) frm n = decide (20 ≤ k ∧ (k : Int) - 20 < n) := by
  unfold inB ahd
  rw [decide_eq_decide]
  omega
/-- How many of the first k numbers lie in the window. -/
def many (n : Int) (k : Nat) : Int := max (min ((k : Int) - 20) n) 0
theorem in_wide (x frm n m : Int) (h : 0 ≤ m) : inB x frm n = true → inB x frm (n + m) = true := by
  unfold inB
  simp
  omega
theorem may_one (x frm n : Int) (hx : 0 ≤ x) (hx' : x < 4294967296) (n0 : 0 ≤ n) : mayB x 1 frm n = inB x frm n := by
  unfold mayB
  rw [if_neg (by omega), if_neg (by omega)]
  by_cases h : n = 0
  · rw [if_pos (by omega)]
    unfold inB
    have := ahd_bd frm x
    simp
    omega
  · rw [if_neg (by omega), Int.max_eq_left (by omega), Int.max_eq_left (by omega)]
    have e : (x + (1 - 1)) % 4294967296 = x := by omega
    rw [e, Bool.or_self]
theorem many_step (n : Int) (k : Nat) (n0 : 0 ≤ n) : many n (k + 1) = many n k + if 20 ≤ k ∧ (k : Int) - 20 < n then 1 else 0 := by
  unfold many
  split <;> omega

set_option maxRecDepth 100000 in
set_option maxHeartbeats 1000000 in
theorem walk (a0 : Int) (a1 : Int) (a2 : Int) (a3 : Int) (w0 : (Lit.int .u32 a0).wf = true) (w1 : (Lit.int .u32 a1).wf = true) (w2 : (Lit.int .u8 a2).wf = true) (w3 : (Lit.int .u8 a3).wf = true) (w : World) :
    Calls Try.prog 8 #[.int .u32 a0, .int .u32 a1, .int .u8 a2, .int .u8 a3] w fun e w' => e = .returned (.bool true) ∧ Grown w w' := by
  obtain ⟨a1', a2'⟩ := u32_of_wf w0
  obtain ⟨b1, b2⟩ := u32_of_wf w1
  obtain ⟨c1, c2⟩ := u8_of_wf w2
  obtain ⟨d1, d2⟩ := u8_of_wf w3
  clear w0 w1 w2 w3
  have hmo := may_one a0 a1 a2 a1' a2' c1
  have hw := in_wide a0 a1 a2 a3 d1
  rcases hb : inB a0 a1 a2 with _ | _
  · clear hw
    rw [hb] at hmo
    go_enter Try.func8, Try.ntmps8
    go_wp2_with (first
    | (go_at_call 12; refine (awake_any _).mono ?_; rintro e w' ⟨rfl, rfl⟩)
    | (go_at_call 10; refine (in_any _ _ _ _).mono ?_; rintro e w' ⟨rfl, rfl⟩)
    | (go_at_call 11; refine (may_any _ _ _ _ _ (by omega) (by omega)).mono ?_; rintro e w' ⟨rfl, rfl⟩))
    go_loop [9, 10] (fun m i => ∃ k : Nat, k ≤ 300 ∧ i = .int .u32 (k : Int) ∧ m = .int .i64 (many a2 k)) (fun _ i => 300 - (intOf i).toNat)
    case atStart => exact ⟨0, by omega, rfl, by rw [show many a2 0 = 0 from by unfold many; omega]⟩
    case round =>
      obtain ⟨k, hk, rfl, rfl⟩ := hrel
      have hmb : 0 ≤ many a2 k ∧ many a2 k ≤ 255 := by unfold many; omega
      obtain ⟨hm0, hm1⟩ := hmb
      by_cases hlt : k < 300
      · have hs := many_step a2 k c1
        have ha := in_at a1 a2 k c1 c2 hlt
        by_cases hc : 20 ≤ k ∧ (k : Int) - 20 < a2
        · rw [if_pos hc] at hs
          rw [decide_eq_true hc] at ha
          have HS := Lib.hid hs
          clear hs
          go_wp2_with (first
          | (go_at_call 12; refine (awake_any _).mono ?_; rintro e w' ⟨rfl, rfl⟩)
          | (go_at_call 10; refine (in_any _ _ _ _).mono ?_; rintro e w' ⟨rfl, rfl⟩)
          | (go_at_call 11; refine (may_any _ _ _ _ _ (by omega) (by omega)).mono ?_; rintro e w' ⟨rfl, rfl⟩))
          go_round
          case rel => exact ⟨k + 1, by omega, by go_num, by rw [HS.out]⟩
          case measure => simp [intOf]; omega
        · rw [if_neg hc] at hs
          rw [decide_eq_false hc] at ha
          have HS := Lib.hid hs
          clear hs
          go_wp2_with (first
          | (go_at_call 12; refine (awake_any _).mono ?_; rintro e w' ⟨rfl, rfl⟩)
          | (go_at_call 10; refine (in_any _ _ _ _).mono ?_; rintro e w' ⟨rfl, rfl⟩)
          | (go_at_call 11; refine (may_any _ _ _ _ _ (by omega) (by omega)).mono ?_; rintro e w' ⟨rfl, rfl⟩))
          go_round
          case rel => exact ⟨k + 1, by omega, by go_num, by rw [HS.out, Int.add_zero]⟩
          case measure => simp [intOf]; omega
      · have e : many a2 k = a2 := by unfold many; omega
        rw [e]
        go_wp2_with (first
          | (go_at_call 12; refine (awake_any _).mono ?_; rintro e w' ⟨rfl, rfl⟩)
          | (go_at_call 10; refine (in_any _ _ _ _).mono ?_; rintro e w' ⟨rfl, rfl⟩)
          | (go_at_call 11; refine (may_any _ _ _ _ _ (by omega) (by omega)).mono ?_; rintro e w' ⟨rfl, rfl⟩))
        go_ret
        exact ⟨rfl, Grown.refl _⟩
  · have hw2 := hw hb
    clear hw
    rw [hb] at hmo
    go_enter Try.func8, Try.ntmps8
    go_wp2_with (first
    | (go_at_call 12; refine (awake_any _).mono ?_; rintro e w' ⟨rfl, rfl⟩)
    | (go_at_call 10; refine (in_any _ _ _ _).mono ?_; rintro e w' ⟨rfl, rfl⟩)
    | (go_at_call 11; refine (may_any _ _ _ _ _ (by omega) (by omega)).mono ?_; rintro e w' ⟨rfl, rfl⟩))
    go_loop [9, 10] (fun m i => ∃ k : Nat, k ≤ 300 ∧ i = .int .u32 (k : Int) ∧ m = .int .i64 (many a2 k)) (fun _ i => 300 - (intOf i).toNat)
    case atStart => exact ⟨0, by omega, rfl, by rw [show many a2 0 = 0 from by unfold many; omega]⟩
    case round =>
      obtain ⟨k, hk, rfl, rfl⟩ := hrel
      have hmb : 0 ≤ many a2 k ∧ many a2 k ≤ 255 := by unfold many; omega
      obtain ⟨hm0, hm1⟩ := hmb
      by_cases hlt : k < 300
      · have hs := many_step a2 k c1
        have ha := in_at a1 a2 k c1 c2 hlt
        by_cases hc : 20 ≤ k ∧ (k : Int) - 20 < a2
        · rw [if_pos hc] at hs
          rw [decide_eq_true hc] at ha
          have HS := Lib.hid hs
          clear hs
          go_wp2_with (first
          | (go_at_call 12; refine (awake_any _).mono ?_; rintro e w' ⟨rfl, rfl⟩)
          | (go_at_call 10; refine (in_any _ _ _ _).mono ?_; rintro e w' ⟨rfl, rfl⟩)
          | (go_at_call 11; refine (may_any _ _ _ _ _ (by omega) (by omega)).mono ?_; rintro e w' ⟨rfl, rfl⟩))
          go_round
          case rel => exact ⟨k + 1, by omega, by go_num, by rw [HS.out]⟩
          case measure => simp [intOf]; omega
        · rw [if_neg hc] at hs
          rw [decide_eq_false hc] at ha
          have HS := Lib.hid hs
          clear hs
          go_wp2_with (first
          | (go_at_call 12; refine (awake_any _).mono ?_; rintro e w' ⟨rfl, rfl⟩)
          | (go_at_call 10; refine (in_any _ _ _ _).mono ?_; rintro e w' ⟨rfl, rfl⟩)
          | (go_at_call 11; refine (may_any _ _ _ _ _ (by omega) (by omega)).mono ?_; rintro e w' ⟨rfl, rfl⟩))
          go_round
          case rel => exact ⟨k + 1, by omega, by go_num, by rw [HS.out, Int.add_zero]⟩
          case measure => simp [intOf]; omega
      · have e : many a2 k = a2 := by unfold many; omega
        rw [e]
        go_wp2_with (first
          | (go_at_call 12; refine (awake_any _).mono ?_; rintro e w' ⟨rfl, rfl⟩)
          | (go_at_call 10; refine (in_any _ _ _ _).mono ?_; rintro e w' ⟨rfl, rfl⟩)
          | (go_at_call 11; refine (may_any _ _ _ _ _ (by omega) (by omega)).mono ?_; rintro e w' ⟨rfl, rfl⟩))
        go_ret
        exact ⟨rfl, Grown.refl _⟩

set_option maxRecDepth 100000 in
theorem lifted (os : Os) (started : os.Started) (H : Type) (enc : TypeId × Value → H) :
    ReturnsInHanded {} Try.checked os 8 .any (Rows.seqnWindowsSpec.pre6 enc Try.prog Try.f8 Rows.seqnWindowsRow.domain false) (Rows.seqnWindowsSpec.post enc Try.prog Try.f8 false true false false) := by
  refine returnsInHanded_of_change (C := Try.checked) own started (by kernel_rfl) Try.func8
    (ChangeSpec.witness6 (enc := enc) (C := Try.checked) false ⟨#[], #[.int .u32 0, .int .u32 0, .int .u8 0, .int .u8 0], []⟩ 8 (by kernel_rfl) (by kernel_rfl) (by kernel_rfl) (by kernel_rfl)) ?_
  intro W base args ds gs before hval0 hW hcnd _
  have hval : ∀ (j : Nat) t v, Try.f8.params[j]? = some t → args[j]? = some v → Value.okWide Try.prog W .any base t v := hval0
  have hW' := hW
  obtain ⟨p, q, hA0, hV, rfl, hfz, hnd⟩ := hW
  have hA : DataW.TrodAll enc Try.prog W 0 (fun _ => true) true Try.f8.params.toList args.toList ds p := hA0
  rw [Try.params8] at hA hval
  obtain ⟨v0, vs0, d0, ds0, p0, q0, hargs, rfl, rfl, h0, r0⟩ := trodAll_cons hA
  obtain ⟨v1, vs1, d1, ds1, p1, q1, rfl, rfl, rfl, h1, r1⟩ := trodAll_cons r0
  obtain ⟨v2, vs2, d2, ds2, p2, q2, rfl, rfl, rfl, h2, r2⟩ := trodAll_cons r1
  obtain ⟨v3, vs3, d3, ds3, p3, q3, rfl, rfl, rfl, h3, r3⟩ := trodAll_cons r2
  obtain ⟨rfl, rfl, rfl⟩ := trodAll_nil r3
  obtain rfl : args = #[v0, v1, v2, v3] := by cases args; simp_all
  obtain ⟨rfl, rfl⟩ := trodVars_none hV
  obtain ⟨a0, rfl, rfl, rfl, w0⟩ := open_int Try.underlying23 (hval 0 23 v0 rfl rfl) h0
  obtain ⟨a1, rfl, rfl, rfl, w1⟩ := open_int Try.underlying23 (hval 1 23 v1 rfl rfl) h1
  obtain ⟨a2, rfl, rfl, rfl, w2⟩ := open_int Try.underlying5 (hval 2 5 v2 rfl rfl) h2
  obtain ⟨a3, rfl, rfl, rfl, w3⟩ := open_int Try.underlying5 (hval 3 5 v3 rfl rfl) h3
  clear hA0 hval0
  simp only [List.append_nil] at hW'
  refine (walk a0 a1 a2 a3 w0 w1 w2 w3 W).mono fun e W' ⟨he, hg⟩ => ?_
  subst he
  exact ⟨_, rfl, post_of_same (pa := []) (pv := []) hW' (fun _ _ _ => (trodAll_cons_mk (shut_bool Try.underlying4 _) trodAll_mk0)) (fun sp _ => (trodAll_cons_mk (shut_int Try.underlying23 w0) (trodAll_cons_mk (shut_int Try.underlying23 w1) (trodAll_cons_mk (shut_int Try.underlying5 w2) (trodAll_cons_mk (shut_int Try.underlying5 w3) trodAll_mk0))))) (fun _ _ => rfl) rfl
    (hg.frame _) hg.2.1 (ok_one (by kernel_rfl) rfl (okWide_bool_mk Try.underlying4 _))⟩

theorem over : Rows.seqnWindowsRow.holds Try.pinned (OpenSpec.ofChange Rows.seqnWindowsSpec) :=
  OpenClaim.holds_of_wide 8 Try.f8 rfl rfl rfl rfl rfl rfl rfl ⟨rfl, rfl, rfl, rfl, rfl⟩ rfl rfl rfl rfl rfl (by kernel_rfl) Try.func8 (by kernel_rfl)
    (of_decide_eq_true (by kernel_rfl)) (by unfold Func.isWrapper; first | (rw [if_pos (by decide +kernel)]; kernel_rfl) | (rw [if_neg (by decide +kernel)]; exact ⟨rfl, rfl⟩))
    (fun os started H enc _ => lifted os started H enc)

theorem proved : Rows.SeqnWindowsSaid :=
  over
#print axioms proved
end Go.Proofs.Ytbepoobpfneniaa.seqnWindows
