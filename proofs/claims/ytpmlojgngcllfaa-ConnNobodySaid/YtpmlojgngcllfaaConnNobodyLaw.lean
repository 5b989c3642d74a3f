/- Proved: the statement Rows.ConnNobodySaid: for every input the Go function blockyardlaw15.ConnNobody returns true and leaves its arguments as they were. Conditions: none beyond the row's own. -/
import Derived.Test.YtpmlojgngcllfaaRows
import Derived.Test.YtpmlojgngcllfaaConnArgs
import Derived.WalkKit
import Derived.ProofKit
import Derived.OpenShut
import Derived.ShutString
import Derived.ChangeOld
import Derived.Below
namespace Go.Proofs.Ytpmlojgngcllfaa.connNobody
open Go.ChangeShapes Go.WideShapes Go.ChangeAt Go.RowKit
open Go.ChangeMaps (open_string shut_string)
set_option linter.unusedVariables false

theorem own : ownKnob Try.prog.godebug = none := by kernel_rfl
theorem laidOut : laidOutB Try.prog = true := by kernel_rfl


set_option maxRecDepth 100000 in
set_option maxHeartbeats 2000000 in
theorem walk (a0 : Value) (a1 : ByteArray) (a2 : Int) (w : World) (z0 : _) (w0 : SegVal w a0 z0) (w1 : a1.size ≤ maxLen) (w2 : (Lit.int .i64 a2).wf = true) : Calls Try.prog 4 #[a0, .string a1, .int .i64 a2] w fun e w' => e = .returned (.bool true) ∧ Below w.heap.size w w' := by
  obtain ⟨rfl, hz⟩ := w0
  have hdl := hz.dl
  unfold maxLen at hdl
  clear w2 hz
  obtain ⟨l, rfl⟩ := ba_list a1
  rw [ba_size] at w1
  have hl : l.length ≤ 9223372036854775807 := w1
  have hl' := Lib.hid w1
  clear w1
  have hbox := Blk.new w 42 z0.box
  obtain ⟨b, hb0⟩ : ∃ b, b = w.heap.size := ⟨_, rfl⟩
  rw [← hb0] at hbox
  have hfb : Frm [] w (w.alloc (.cells z0.box 42)) := (Frm.refl _ _).alloc _
  have HBOX := Lib.hid hbox
  have HFB := Lib.hid hfb
  have HB0 := Lib.hid hb0
  clear hbox hfb
  by_cases hbig : 2000 < l.length
  · have q1 : decide ((2000 : Int) < (l.length : Int)) = true := by simp; omega
    clear hb0
    go_enter Try.func4, Try.ntmps4
    go_wp2_with (go_at_call 8; refine (awake_any _).mono ?_; rintro e w1 ⟨rfl, hf1⟩)
    go_ret
    exact ⟨rfl, (HFB.out.next0 hf1).below (Nat.le_refl _) (by simp)⟩
  have q1 : decide ((2000 : Int) < (l.length : Int)) = false := by simp; omega
  go_enter Try.func4, Try.ntmps4
  go_upto_region 3 with (go_at_call 8; refine (awake_any _).mono ?_; rintro e w1 ⟨rfl, hf1⟩)
  rw [← hb0]
  clear hb0
  have hbx := HBOX.out.frm hf1 (by simp)
  have hf : Frm [] w w1 := HFB.out.next0 hf1
  have x7 : w1.cell? ⟨b, 7, none⟩ = some (.string ⟨z0.data.toArray⟩) := hbx.cell 7
  clear HBOX HFB hf1
  by_cases hbig2 : 2000 < z0.data.length
  · have q2 : decide ((2000 : Int) < (z0.data.length : Int)) = true := by simp; omega
    go_wp2_with fail
    go_ret
    exact ⟨rfl, hf.below (Nat.le_refl _) (by simp)⟩
  have q2 : decide ((2000 : Int) < (z0.data.length : Int)) = false := by simp; omega
  go_upto_region 7 with fail
  obtain ⟨g, hg⟩ : ∃ g, g = w1.heap.size := ⟨_, rfl⟩
  rw [← hg]
  refine wp_world (fun wx => Blk wx b 42 z0.box ∧ wx.cell? ⟨g, 16, none⟩ = some (.pointer none) ∧ Frm [] w wx) ⟨hbx.alloc _, (Blk.new_at hg.symm _ _).cell 16, hf.alloc _⟩ ?_
  clear hbx x7 hf q1 q2 hg HB0 hbig hbig2
  rintro w2 ⟨hbx, hc, hf⟩
  have x0 : w2.cell? ⟨b, 0, none⟩ = some (.int .i64 z0.frm) := hbx.cell 0
  have x1 : w2.cell? ⟨b, 1, none⟩ = some (.int .i64 z0.dst) := hbx.cell 1
  have x2 : w2.cell? ⟨b, 2, none⟩ = some (.int .u32 z0.seq) := hbx.cell 2
  have x3 : w2.cell? ⟨b, 3, none⟩ = some (.int .u32 z0.ack) := hbx.cell 3
  have x4 : w2.cell? ⟨b, 4, none⟩ = some (.int .i64 z0.flags) := hbx.cell 4
  have x5 : w2.cell? ⟨b, 5, none⟩ = some (.int .i64 z0.window) := hbx.cell 5
  have x6 : w2.cell? ⟨b, 6, none⟩ = some (.int .i64 z0.mss) := hbx.cell 6
  have x7 : w2.cell? ⟨b, 7, none⟩ = some (.string ⟨z0.data.toArray⟩) := hbx.cell 7
  go_wp2_with fail
  refine (cin_nil _ _ _ _ _ _ _ _ _).mono ?_
  rintro e w3 ⟨rfl, hf3⟩
  clear x0 x1 x2 x3 x4 x5 x6 x7
  have hlt := cell_block_lt (p := ⟨g, 16, none⟩) hc
  replace hc := (hf3.cell (p := ⟨g, 16, none⟩) hlt (by simp)).trans hc
  replace hbx := hbx.frm hf3 (by simp)
  replace hf := hf.next0 hf3
  clear hf3 hlt
  have x0 : w3.cell? ⟨b, 0, none⟩ = some (.int .i64 z0.frm) := hbx.cell 0
  have x1 : w3.cell? ⟨b, 1, none⟩ = some (.int .i64 z0.dst) := hbx.cell 1
  have x2 : w3.cell? ⟨b, 2, none⟩ = some (.int .u32 z0.seq) := hbx.cell 2
  have x3 : w3.cell? ⟨b, 3, none⟩ = some (.int .u32 z0.ack) := hbx.cell 3
  have x4 : w3.cell? ⟨b, 4, none⟩ = some (.int .i64 z0.flags) := hbx.cell 4
  have x5 : w3.cell? ⟨b, 5, none⟩ = some (.int .i64 z0.window) := hbx.cell 5
  have x6 : w3.cell? ⟨b, 6, none⟩ = some (.int .i64 z0.mss) := hbx.cell 6
  have x7 : w3.cell? ⟨b, 7, none⟩ = some (.string ⟨z0.data.toArray⟩) := hbx.cell 7
  go_wp2_with fail
  refine (cin_bare _ _ hc _ _ _ _ _ _ _ _).mono ?_
  rintro e w4 ⟨rfl, hf4⟩
  clear x0 x1 x2 x3 x4 x5 x6 x7
  have hlt := cell_block_lt (p := ⟨g, 16, none⟩) hc
  replace hc := (hf4.cell (p := ⟨g, 16, none⟩) hlt (by simp)).trans hc
  replace hf := hf.next0 hf4
  clear hf4 hlt hbx
  go_wp2_with fail
  refine (ctick_nil _).mono ?_
  rintro e w' ⟨rfl, rfl⟩
  go_wp2_with fail
  refine (cclose_nil _).mono ?_
  rintro e w' ⟨rfl, rfl⟩
  go_wp2_with fail
  refine (cclose_bare _ _ hc).mono ?_
  rintro e w' ⟨rfl, rfl⟩
  go_wp2_with fail
  refine (cabort_nil _).mono ?_
  rintro e w' ⟨rfl, rfl⟩
  go_wp2_with fail
  refine (cprobe_nil _).mono ?_
  rintro e w' ⟨rfl, rfl⟩
  go_wp2_with fail
  refine (cprobe_bare _ _ hc).mono ?_
  rintro e w' ⟨rfl, rfl⟩
  go_wp2_with fail
  refine (cwrite_nil _ _).mono ?_
  rintro e w' ⟨rfl, rfl⟩
  go_wp2_with fail
  refine (cwrite_bare _ _ hc _).mono ?_
  rintro e w' ⟨rfl, rfl⟩
  go_wp2_with fail
  refine (cread_nil _ _).mono ?_
  rintro e w' ⟨rfl, rfl⟩
  go_wp2_with fail
  refine (cout_nil _).mono ?_
  rintro e w' ⟨rfl, rfl⟩
  go_wp2_with fail
  refine (cout_bare _ _ hc).mono ?_
  rintro e w' ⟨rfl, rfl⟩
  go_wp2_with fail
  refine (cstate_nil _).mono ?_
  rintro e w' ⟨rfl, rfl⟩
  go_wp2_with fail
  refine (cstate_bare _ _ hc).mono ?_
  rintro e w' ⟨rfl, rfl⟩
  go_wp2_with fail
  refine (cready_nil _).mono ?_
  rintro e w' ⟨rfl, rfl⟩
  go_wp2_with fail
  refine (ceof_nil _).mono ?_
  rintro e w' ⟨rfl, rfl⟩
  go_wp2_with fail
  refine (croom_nil _).mono ?_
  rintro e w' ⟨rfl, rfl⟩
  go_wp2_with fail
  refine (creset_nil _).mono ?_
  rintro e w' ⟨rfl, rfl⟩
  go_wp2_with fail
  go_ret
  exact ⟨rfl, hf.below (Nat.le_refl _) (by simp)⟩

set_option maxRecDepth 100000 in
theorem lifted (os : Os) (started : os.Started) (H : Type) (enc : TypeId × Value → H) :
    ReturnsInHanded {} Try.checked os 4 .any (Rows.connNobodySpec.pre6 enc Try.prog Try.f4 Rows.connNobodyRow.domain false) (Rows.connNobodySpec.post enc Try.prog Try.f4 false true false false) := by
  refine returnsInHanded_of_change (C := Try.checked) own started (by kernel_rfl) Try.func4
    (ChangeSpec.witness6 (enc := enc) (C := Try.checked) false ⟨#[], #[.agg #[.int .i64 0, .int .i64 0, .int .u32 0, .int .u32 0, .int .i64 0, .int .i64 0, .int .i64 0, .string ByteArray.empty], .string ByteArray.empty, .int .i64 0], []⟩ 8 (by kernel_rfl) (by kernel_rfl) (by kernel_rfl) (by kernel_rfl)) ?_
  intro W base args ds gs before hval0 hW hcnd _
  have hval : ∀ (j : Nat) t v, Try.f4.params[j]? = some t → args[j]? = some v → Value.okWide Try.prog W .any base t v := hval0
  have hW' := hW
  obtain ⟨p, q, hA0, hV, rfl, hfz, hnd⟩ := hW
  have hA : DataW.TrodAll enc Try.prog W 0 (fun _ => true) true Try.f4.params.toList args.toList ds p := hA0
  rw [Try.params4] at hA hval
  obtain ⟨v0, vs0, d0, ds0, p0, q0, hargs, rfl, rfl, h0, r0⟩ := trodAll_cons hA
  obtain ⟨v1, vs1, d1, ds1, p1, q1, rfl, rfl, rfl, h1, r1⟩ := trodAll_cons r0
  obtain ⟨v2, vs2, d2, ds2, p2, q2, rfl, rfl, rfl, h2, r2⟩ := trodAll_cons r1
  obtain ⟨rfl, rfl, rfl⟩ := trodAll_nil r2
  obtain rfl : args = #[v0, v1, v2] := by cases args; simp_all
  obtain ⟨rfl, rfl⟩ := trodVars_none hV
  have k0 := h0
  have lt0 : ∀ x ∈ p0, x.block < W.heap.size := by obtain ⟨m, hm⟩ := k0; exact DataW.trod_lt m _ _ _ hm
  obtain ⟨z0, w0⟩ := seg_open (hval 0 42 v0 rfl rfl) h0
  obtain ⟨a1, rfl, rfl, rfl, w1⟩ := open_string Try.underlying9 (hval 1 9 v1 rfl rfl) h1
  obtain ⟨a2, rfl, rfl, rfl, w2⟩ := open_int Try.underlying3 (hval 2 3 v2 rfl rfl) h2
  clear hA0 hval0
  refine (walk v0 a1 a2 W z0 w0 w1 w2).mono fun e W' ⟨he, bel⟩ => ?_
  subst he
  exact ⟨_, rfl, _, _, _, [], _, [], hW', trodAll_mk1 (shut_bool Try.underlying4 _), (trodAll_cons_mk (Below.trod laidOut (by kernel_rfl) (of_decide_eq_true (by kernel_rfl)) k0 bel lt0) (trodAll_cons_mk (shut_string Try.underlying9 w1) (trodAll_cons_mk (shut_int Try.underlying3 w2) trodAll_mk0))), rfl, bel.frame _, fun h => by cases h⟩

theorem over : Rows.connNobodyRow.holds Try.pinned (OpenSpec.ofChange Rows.connNobodySpec) :=
  OpenClaim.holds_of_wide 4 Try.f4 rfl rfl rfl rfl rfl rfl rfl ⟨rfl, rfl, rfl, rfl, rfl⟩ rfl rfl rfl rfl rfl (by kernel_rfl) Try.func4 (by kernel_rfl)
    (of_decide_eq_true (by kernel_rfl)) (by unfold Func.isWrapper; first | (rw [if_pos (by decide +kernel)]; kernel_rfl) | (rw [if_neg (by decide +kernel)]; exact ⟨rfl, rfl⟩))
    (fun os started H enc _ => lifted os started H enc)

theorem proved : Rows.ConnNobodySaid := over
#print axioms proved
end Go.Proofs.Ytpmlojgngcllfaa.connNobody
