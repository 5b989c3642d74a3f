/- Proved: the statement Rows.ConnKnownSaid: for every input the Go function blockyardlaw15.ConnKnown returns true and leaves its arguments as they were. Conditions: none beyond the row's own. -/
import Derived.Test.YtpmlojgngcllfaaRows
import Derived.Test.YtpmlojgngcllfaaConnArgs
import Derived.WalkKit
import Derived.ProofKit
import Derived.OpenShut
import Derived.ShutString
import Derived.ChangeOld
import Derived.Below
namespace Go.Proofs.Ytpmlojgngcllfaa.connKnown
open Go.ChangeShapes Go.WideShapes Go.ChangeAt Go.RowKit
open Go.ChangeMaps (open_string shut_string)
set_option linter.unusedVariables false

theorem own : ownKnob Try.prog.godebug = none := by kernel_rfl
theorem laidOut : laidOutB Try.prog = true := by kernel_rfl

theorem live_as {w a : World} {fp : List Nat} {g : Nat} {c d : CN} (h : Live w a fp g c) (e : c = d) : Live w a fp g d := e ▸ h
theorem row_as {B : Nat} {a : World} {fp : List Nat} {v : Value} {l l' : List Sg} (h : Row B a fp v l) (e : l = l') : Row B a fp v l' := e ▸ h
theorem calm_n (n : Nat) (h : n < 5) : (ticksN n k10).Calm := by
  obtain ⟨h1, h2, h3, h4, h5, -⟩ := kvt n h
  exact ⟨fun _ => by omega, fun _ => by omega, by omega, by omega⟩
theorem sF_ok : sF.Ok := ⟨by decide, by decide, by decide, by decide, by decide, by decide, by decide⟩
theorem out_n (n : Nat) (h : n < 5) : (ticksN n k10).out.length ≤ 900000 := by rw [(kvt n h).2.2.2.2.2]; exact Nat.zero_le _
set_option maxRecDepth 100000 in
set_option maxHeartbeats 2000000 in
theorem walk (w : World) : Calls Try.prog 7 #[] w fun e w' => e = .returned (.bool true) ∧ Below w.heap.size w w' := by
  go_enter Try.func7, Try.ntmps7
  go_wp2_with fail
  refine (syn_any _).mono ?_
  rintro e w1 ⟨rfl, hf1⟩
  go_wp2_with fail
  refine (how_any _).mono ?_
  rintro e w2 ⟨rfl, hf2⟩
  have hfa := hf1.next0 hf2
  go_wp2_with fail
  refine (cnew_ok sSyn 500 tHow _ newok_how).mono ?_
  intro e w3 hnew
  obtain ⟨g, fp3, rfl, hl3, -⟩ := Live.of_new hfa hnew
  have HFA := Lib.hid hfa
  clear hnew hf1 hf2 hfa
  go_wp2_with fail
  refine (cout_in _ hl3.inn).mono ?_
  intro e w4 hout
  obtain ⟨v_x, fp4, rfl, hq, hst, hr⟩ := hl3.out hout
  have hl4 : Live _ w4 fp4 g k1 := live_as hq rfl
  clear hr
  clear hout hq hst hl3
  have hs := cstate_in w4 hl4.inn
  rw [kv1] at hs
  have HS := Lib.hid hs
  clear hs
  go_wp2_with fail
  refine HS.out.mono ?_
  rintro e w' ⟨rfl, rfl⟩
  clear HS
  go_wp2_with fail
  refine (cin_in _ sHi (Nat.zero_le _) sHi_ok hl4.inn).mono ?_
  rintro e w5 ⟨rfl, hto⟩
  obtain ⟨fp5, hq, hst⟩ := hl4.next hto
  have hl5 : Live _ w5 fp5 g k2 := live_as hq rfl
  clear hto hq hst hl4
  go_wp2_with fail
  refine (cread_in _ 9 (by rw [kv2]; decide) hl5.inn).mono ?_
  rintro e w6 ⟨rfl, hto⟩
  obtain ⟨fp6, hq, hst⟩ := hl5.next hto
  have hl6 : Live _ w6 fp6 g k3 := live_as hq rfl
  clear hto hq hst hl5
  go_wp2_with fail
  refine (cout_in _ hl6.inn).mono ?_
  intro e w7 hout
  obtain ⟨v_x, fp7, rfl, hq, hst, hr⟩ := hl6.out hout
  have hl7 : Live _ w7 fp7 g k4 := live_as hq rfl
  clear hr
  clear hout hq hst hl6
  have hw := cwrite_in w7 [111, 107] (by decide) (Nat.zero_le _) hl7.inn
  rw [kv4] at hw
  have HW := Lib.hid hw
  clear hw
  go_wp2_with fail
  refine HW.out.mono ?_
  rintro e w8 ⟨rfl, hto⟩
  obtain ⟨fp8, hq, hst⟩ := hl7.next hto
  have hl8 : Live _ w8 fp8 g k5 := live_as hq rfl
  clear hto hq hst hl7 HW
  go_wp2_with fail
  refine (cout_in _ hl8.inn).mono ?_
  intro e w9 hout
  obtain ⟨va, fp9, rfl, hq, hst, hr⟩ := hl8.out hout
  have hl9 : Live _ w9 fp9 g k6 := live_as hq rfl
  have ha := row_as hr kv5
  clear hr
  clear hout hq hst hl8
  go_wp2_with fail
  refine (cclose_in _ (Nat.zero_le _) hl9.inn).mono ?_
  rintro e w10 ⟨rfl, hto⟩
  obtain ⟨fp10, hq, hst⟩ := hl9.next hto
  have hl10 : Live _ w10 fp10 g k7 := live_as hq rfl
  replace ha := ha.next hst
  clear hto hq hst hl9
  have hs := cstate_in w10 hl10.inn
  rw [kv7] at hs
  have HS := Lib.hid hs
  clear hs
  go_wp2_with fail
  refine HS.out.mono ?_
  rintro e w' ⟨rfl, rfl⟩
  clear HS
  go_wp2_with fail
  refine (cout_in _ hl10.inn).mono ?_
  intro e w11 hout
  obtain ⟨vb, fp11, rfl, hq, hst, hr⟩ := hl10.out hout
  have hl11 : Live _ w11 fp11 g k8 := live_as hq rfl
  replace ha := ha.next hst
  have hb := row_as hr kv7o
  clear hr
  clear hout hq hst hl10
  go_wp2_with fail
  refine (cin_in _ sF (Nat.zero_le _) sF_ok hl11.inn).mono ?_
  rintro e w12 ⟨rfl, hto⟩
  obtain ⟨fp12, hq, hst⟩ := hl11.next hto
  have hl12 : Live _ w12 fp12 g k9 := live_as hq rfl
  replace ha := ha.next hst
  replace hb := hb.next hst
  clear hto hq hst hl11
  have hs := cstate_in w12 hl12.inn
  rw [kv9] at hs
  have HS := Lib.hid hs
  clear hs
  go_wp2_with fail
  refine HS.out.mono ?_
  rintro e w' ⟨rfl, rfl⟩
  clear HS
  go_wp2_with fail
  refine (cout_in _ hl12.inn).mono ?_
  intro e w13 hout
  obtain ⟨vd, fp13, rfl, hq, hst, hr⟩ := hl12.out hout
  have hl13 : Live _ w13 fp13 g k10 := live_as hq rfl
  replace ha := ha.next hst
  replace hb := hb.next hst
  have hd := row_as hr kv9o
  clear hr
  clear hout hq hst hl12
  have hstart : ∃ (k : Nat) (fp : List Nat), k ≤ 4 ∧ (Value.int .i64 0) = .int .i64 (k : Int) ∧ Live w2 w13 fp g (ticksN k k10) ∧ Row w2.heap.size w13 fp va [sWant] ∧ Row w2.heap.size w13 fp vb [sFin] ∧ Row w2.heap.size w13 fp vd [sLast] := ⟨0, fp13, by omega, rfl, hl13, ha, hb, hd⟩
  clear hl13 ha hb hd
  go_wp2_with fail
  go_loopw [10] (fun i wr => ∃ (k : Nat) (fp : List Nat), k ≤ 4 ∧ i = .int .i64 (k : Int) ∧ Live w2 wr fp g (ticksN k k10) ∧ Row w2.heap.size wr fp va [sWant] ∧ Row w2.heap.size wr fp vb [sFin] ∧ Row w2.heap.size wr fp vd [sLast]) (fun i _ => 4 - (intOf i).toNat)
  case atStart => exact hstart
  case round =>
    clear hstart
    obtain ⟨k, fp, hk, rfl, hl, ha, hb, hd⟩ := hrel
    by_cases hlt : k < 4
    · go_wp2_with fail
      refine (ctick_in _ (out_n k (by omega)) (calm_n k (by omega)) hl.inn).mono ?_
      rintro e wt ⟨rfl, hto⟩
      obtain ⟨fp', hl', hst⟩ := hl.next hto
      replace ha := ha.next hst
      replace hb := hb.next hst
      replace hd := hd.next hst
      clear hl hto hst
      go_wp2_with fail
      go_roundw
      case rel => exact ⟨k + 1, fp', by omega, by go_num, hl', ha, hb, hd⟩
      case measure => simp [intOf]; omega
    · obtain rfl : k = 4 := by omega
      have hs := cstate_in wr hl.inn
      rw [(kvt 4 (by omega)).1] at hs
      have HS := Lib.hid hs
      clear hs hlt hk
      go_wp2_with fail
      refine HS.out.mono ?_
      rintro e w' ⟨rfl, rfl⟩
      clear HS
      go_wp2_with fail
      refine (ctick_in _ (out_n 4 (by omega)) (calm_n 4 (by omega)) hl.inn).mono ?_
      rintro e x1 ⟨rfl, hto⟩
      obtain ⟨fq1, hq, hst⟩ := hl.next hto
      have hl1 : Live _ x1 fq1 g k15 := live_as hq rfl
      replace ha := ha.next hst
      replace hb := hb.next hst
      replace hd := hd.next hst
      clear hto hq hst hl
      go_wp2_with fail
      refine (how_any _).mono ?_
      rintro e x2 ⟨rfl, hf⟩
      replace hl1 := hl1.frm0 hf
      replace ha := ha.frm0 hf
      replace hb := hb.frm0 hf
      replace hd := hd.frm0 hf
      clear hf
      go_wp2_with fail
      refine (cnew_bad2 ⟨0, 0, 0, 0, 16, 0, 0, []⟩ 1 tHow _ (by decide) (by decide) (by decide) (by decide) (Or.inr ⟨by decide, by decide, by decide, by decide, by decide⟩)).mono ?_
      rintro e x3 ⟨rfl, hf⟩
      replace hl1 := hl1.frm0 hf
      replace ha := ha.frm0 hf
      replace hb := hb.frm0 hf
      replace hd := hd.frm0 hf
      clear hf
      go_wp2_with fail
      refine (syn_any _).mono ?_
      rintro e x4 ⟨rfl, hf⟩
      replace hl1 := hl1.frm0 hf
      replace ha := ha.frm0 hf
      replace hb := hb.frm0 hf
      replace hd := hd.frm0 hf
      clear hf
      go_wp2_with fail
      refine (cnew_bad2 sSyn 1 ⟨1, 1, 1, 0, 1⟩ _ (by decide) (by decide) (by decide) (by decide) (Or.inl (by decide))).mono ?_
      rintro e x5 ⟨rfl, hf⟩
      replace hl1 := hl1.frm0 hf
      replace ha := ha.frm0 hf
      replace hb := hb.frm0 hf
      replace hd := hd.frm0 hf
      clear hf
      go_upto_region 26 with fail
      obtain ⟨b1, hb1⟩ : ∃ b, b = x5.heap.size := ⟨_, rfl⟩
      obtain ⟨b2, hb2⟩ : ∃ b, b = x5.heap.size + 1 := ⟨_, rfl⟩
      obtain ⟨b3, hb3⟩ : ∃ b, b = x5.heap.size + 1 + 1 := ⟨_, rfl⟩
      refine wp_world (fun wx => Frm [] x5 wx ∧ Blk wx b1 42 sWant.box ∧ Blk wx b2 42 sFin.box ∧ Blk wx b3 42 sLast.box) ⟨(((Frm.refl _ _).alloc _).alloc _).alloc _, ((Blk.new_at hb1.symm _ _).alloc _).alloc _, (Blk.new_at (by simp [hb2]) _ _).alloc _, Blk.new_at (by simp [hb3]) _ _⟩ ?_
      rintro x6 ⟨hf, h1, h2, h3⟩
      rw [← hb3, ← hb2, ← hb1]
      clear hb1 hb2 hb3
      replace hl1 := hl1.frm0 hf
      replace ha := ha.frm0 hf
      replace hb := hb.frm0 hf
      replace hd := hd.frm0 hf
      clear hf
      go_wp2_with fail
      refine (awake_any _).mono ?_
      rintro e x7 ⟨rfl, hf⟩
      replace hl1 := hl1.frm0 hf
      replace ha := ha.frm0 hf
      replace hb := hb.frm0 hf
      replace hd := hd.frm0 hf
      replace h1 := h1.frm hf (by simp)
      replace h2 := h2.frm hf (by simp)
      replace h3 := h3.frm hf (by simp)
      clear hf
      have y0 : x7.cell? ⟨b1, 0, none⟩ = some (.int .i64 10) := h1.cell 0
      have y1 : x7.cell? ⟨b1, 1, none⟩ = some (.int .i64 9) := h1.cell 1
      have y2 : x7.cell? ⟨b1, 2, none⟩ = some (.int .u32 501) := h1.cell 2
      have y3 : x7.cell? ⟨b1, 3, none⟩ = some (.int .u32 103) := h1.cell 3
      have y4 : x7.cell? ⟨b1, 4, none⟩ = some (.int .i64 24) := h1.cell 4
      have y5 : x7.cell? ⟨b1, 5, none⟩ = some (.int .i64 2048) := h1.cell 5
      have y6 : x7.cell? ⟨b1, 6, none⟩ = some (.int .i64 0) := h1.cell 6
      have y7 : x7.cell? ⟨b1, 7, none⟩ = some (.string ⟨#[111, 107]⟩) := h1.cell 7
      go_wp2_with fail
      refine (same_any va _ [sWant] _ ((ha.frm0 ((Frm.refl _ _).alloc _)).segs (by decide) (by decide)) (segs_lit (Blk.new _ _ _))).mono ?_
      rintro e x8 ⟨rfl, hd0⟩
      have hf : Frm [] x7 x8 := hd0.next ((Frm.refl _ _).alloc _)
      clear y0 y1 y2 y3 y4 y5 y6 y7 hd0
      replace hl1 := hl1.frm0 hf
      replace ha := ha.frm0 hf
      replace hb := hb.frm0 hf
      replace hd := hd.frm0 hf
      replace h1 := h1.frm hf (by simp)
      replace h2 := h2.frm hf (by simp)
      replace h3 := h3.frm hf (by simp)
      clear hf
      have y0 : x8.cell? ⟨b2, 0, none⟩ = some (.int .i64 10) := h2.cell 0
      have y1 : x8.cell? ⟨b2, 1, none⟩ = some (.int .i64 9) := h2.cell 1
      have y2 : x8.cell? ⟨b2, 2, none⟩ = some (.int .u32 503) := h2.cell 2
      have y3 : x8.cell? ⟨b2, 3, none⟩ = some (.int .u32 103) := h2.cell 3
      have y4 : x8.cell? ⟨b2, 4, none⟩ = some (.int .i64 17) := h2.cell 4
      have y5 : x8.cell? ⟨b2, 5, none⟩ = some (.int .i64 2048) := h2.cell 5
      have y6 : x8.cell? ⟨b2, 6, none⟩ = some (.int .i64 0) := h2.cell 6
      have y7 : x8.cell? ⟨b2, 7, none⟩ = some (.string ⟨#[]⟩) := h2.cell 7
      go_wp2_with fail
      refine (same_any vb _ [sFin] _ ((hb.frm0 ((Frm.refl _ _).alloc _)).segs (by decide) (by decide)) (segs_lit (Blk.new _ _ _))).mono ?_
      rintro e x9 ⟨rfl, hd0⟩
      have hf : Frm [] x8 x9 := hd0.next ((Frm.refl _ _).alloc _)
      clear y0 y1 y2 y3 y4 y5 y6 y7 hd0
      replace hl1 := hl1.frm0 hf
      replace ha := ha.frm0 hf
      replace hb := hb.frm0 hf
      replace hd := hd.frm0 hf
      replace h1 := h1.frm hf (by simp)
      replace h2 := h2.frm hf (by simp)
      replace h3 := h3.frm hf (by simp)
      clear hf
      have y0 : x9.cell? ⟨b3, 0, none⟩ = some (.int .i64 10) := h3.cell 0
      have y1 : x9.cell? ⟨b3, 1, none⟩ = some (.int .i64 9) := h3.cell 1
      have y2 : x9.cell? ⟨b3, 2, none⟩ = some (.int .u32 504) := h3.cell 2
      have y3 : x9.cell? ⟨b3, 3, none⟩ = some (.int .u32 104) := h3.cell 3
      have y4 : x9.cell? ⟨b3, 4, none⟩ = some (.int .i64 16) := h3.cell 4
      have y5 : x9.cell? ⟨b3, 5, none⟩ = some (.int .i64 2048) := h3.cell 5
      have y6 : x9.cell? ⟨b3, 6, none⟩ = some (.int .i64 0) := h3.cell 6
      have y7 : x9.cell? ⟨b3, 7, none⟩ = some (.string ⟨#[]⟩) := h3.cell 7
      go_wp2_with fail
      refine (same_any vd _ [sLast] _ ((hd.frm0 ((Frm.refl _ _).alloc _)).segs (by decide) (by decide)) (segs_lit (Blk.new _ _ _))).mono ?_
      rintro e x10 ⟨rfl, hd0⟩
      have hf : Frm [] x9 x10 := hd0.next ((Frm.refl _ _).alloc _)
      clear y0 y1 y2 y3 y4 y5 y6 y7 hd0
      replace hl1 := hl1.frm0 hf
      replace ha := ha.frm0 hf
      replace hb := hb.frm0 hf
      replace hd := hd.frm0 hf
      replace h1 := h1.frm hf (by simp)
      replace h2 := h2.frm hf (by simp)
      replace h3 := h3.frm hf (by simp)
      clear hf
      have hs := cstate_in _ hl1.inn
      rw [kv15.1] at hs
      have hrs := creset_in _ hl1.inn
      rw [kv15.2.1] at hrs
      have heo := ceof_in _ hl1.inn
      rw [show k15.over = true from kv15.2.2] at heo
      have HS := Lib.hid hs
      have HR := Lib.hid hrs
      have HE := Lib.hid heo
      have hfin := hl1.frm
      clear hs hrs heo hl1 ha hb hd h1 h2 h3
      go_wp2_with fail
      refine HS.out.mono ?_
      rintro e w' ⟨rfl, rfl⟩
      go_wp2_with fail
      refine HR.out.mono ?_
      rintro e w' ⟨rfl, rfl⟩
      go_wp2_with fail
      refine HE.out.mono ?_
      rintro e w' ⟨rfl, rfl⟩
      go_wp2_with fail
      go_ret
      exact ⟨rfl, (HFA.out.next0 hfin).below (Nat.le_refl _) (by simp)⟩

set_option maxRecDepth 100000 in
theorem lifted (os : Os) (started : os.Started) (H : Type) (enc : TypeId × Value → H) :
    ReturnsInHanded {} Try.checked os 7 .any (Rows.connKnownSpec.pre6 enc Try.prog Try.f7 Rows.connKnownRow.domain false) (Rows.connKnownSpec.post enc Try.prog Try.f7 false true false false) := by
  refine returnsInHanded_of_change (C := Try.checked) own started (by kernel_rfl) Try.func7
    (ChangeSpec.witness6 (enc := enc) (C := Try.checked) false ⟨#[], #[], []⟩ 8 (by kernel_rfl) (by kernel_rfl) (by kernel_rfl) (by kernel_rfl)) ?_
  intro W base args ds gs before hval0 hW hcnd _
  have hval : ∀ (j : Nat) t v, Try.f7.params[j]? = some t → args[j]? = some v → Value.okWide Try.prog W .any base t v := hval0
  have hW' := hW
  obtain ⟨p, q, hA0, hV, rfl, hfz, hnd⟩ := hW
  have hA : DataW.TrodAll enc Try.prog W 0 (fun _ => true) true Try.f7.params.toList args.toList ds p := hA0
  rw [Try.params7] at hA hval

  obtain ⟨rfl, rfl, rfl⟩ := trodAll_none hA
  obtain ⟨rfl, rfl⟩ := trodVars_none hV

  clear hA0 hval0
  refine (walk W).mono fun e W' ⟨he, bel⟩ => ?_
  subst he
  exact ⟨_, rfl, _, _, _, [], _, [], hW', trodAll_mk1 (shut_bool Try.underlying4 _), trodAll_mk0, rfl, bel.frame _, fun h => by cases h⟩

theorem over : Rows.connKnownRow.holds Try.pinned (OpenSpec.ofChange Rows.connKnownSpec) :=
  OpenClaim.holds_of_wide 7 Try.f7 rfl rfl rfl rfl rfl rfl rfl ⟨rfl, rfl, rfl, rfl, rfl⟩ rfl rfl rfl rfl rfl (by kernel_rfl) Try.func7 (by kernel_rfl)
    (of_decide_eq_true (by kernel_rfl)) (by unfold Func.isWrapper; first | (rw [if_pos (by decide +kernel)]; kernel_rfl) | (rw [if_neg (by decide +kernel)]; exact ⟨rfl, rfl⟩))
    (fun os started H enc _ => lifted os started H enc)

theorem proved : Rows.ConnKnownSaid := over
#print axioms proved
end Go.Proofs.Ytpmlojgngcllfaa.connKnown
