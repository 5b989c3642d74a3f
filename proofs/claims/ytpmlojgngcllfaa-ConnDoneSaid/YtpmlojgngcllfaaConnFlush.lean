/- The contracts of package conn: flush. -/
import Derived.Test.YtpmlojgngcllfaaConnFlow
namespace Go.Proofs.Ytpmlojgngcllfaa
open Go.RowKit Go

def Flows (w wr : World) (B : Nat) (fp : List Nat) (g : Nat) (F : CN) (N gk : Nat) : Prop := ∃ c', gk = c'.fuel ∧ CnTo w wr B fp g c' ∧ CN.pour c'.fuel c' = F ∧ c'.out.length + c'.fuel ≤ N

theorem CN.flows_cases {c : CN} (h : c.flows = true) : c.state = 2 ∨ c.state = 3 ∨ c.state = 5 ∨ c.state = 7 ∨ c.state = 8 := by
  unfold CN.flows at h
  simp only [Bool.or_eq_true, beq_iff_eq] at h
  omega

set_option maxRecDepth 100000 in
set_option maxHeartbeats 1000000 in
theorem cflush_in {B g : Nat} {fp : List Nat} {c : CN} (w : World) (hn : c.out.length ≤ 900000) (h : CnIn w B fp g c) :
    Calls Try.prog 36 #[.pointer (some ⟨g, 0, none⟩)] w fun e w' => e = .returned (.tuple #[]) ∧ CnTo w w' B fp g c.flush := by
  have d7 := h.c7
  rcases hfl : c.flows with _ | _
  · have hfl2 := hfl
    unfold CN.flows at hfl2
    simp only [Bool.or_eq_false_iff] at hfl2
    obtain ⟨⟨⟨⟨a2, a3⟩, a5⟩, a7⟩, a8⟩ := hfl2
    have HF := Lib.hid hfl
    clear hfl
    go_enter Try.func36, Try.ntmps36
    go_wp2_with fail
    refine bodyPost_ret (results_none rfl _ _ _) rfl ?_
    refine ⟨rfl, ?_⟩
    unfold CN.flush
    rw [HF.out]
    exact h.to
  · have hst := CN.flows_cases hfl
    obtain ⟨F, hF⟩ : ∃ F, CN.pour c.fuel c = F := ⟨_, rfl⟩
    have hfle := CN.fuel_le h.ok
    have hR : c.flush = F.idles := by unfold CN.flush; rw [hfl, if_pos rfl, hF]
    rw [hR]
    have hN : c.out.length + c.fuel ≤ 902049 := by omega
    have hstart : Flows w w B fp g F (c.out.length + c.fuel) c.fuel := ⟨c, rfl, h.to, hF, Nat.le_refl _⟩
    clear hfl hF hR h hn hfle
    generalize c.out.length + c.fuel = N at *
    generalize hK : c.fuel = K at *
    have HK := Lib.hid hK
    clear hK
    rcases hst with h7 | h7 | h7 | h7 | h7
    all_goals
      rw [h7] at d7
      clear h7
      go_enter Try.func36, Try.ntmps36
      go_wp2_with fail
      go_loopg [] K (fun gk wr => Flows w wr B fp g F N gk)
      case atStart => exact hstart
      case round =>
        clear hstart d7
        obtain ⟨c', rfl, ⟨fp1, hx, hfx, hix⟩, hF, ho⟩ := hrel
        have d18 := hx.c18
        have d11 := hx.c11
        have d12 := hx.c12
        have hw := hx.ok.win
        have ha := ahd_bd c'.una c'.nxt
        have hn1 : c'.out.length ≤ 1000000 := by omega
        have hxd := hx.drw (Drw.mk wr 1)
        rcases hc : c'.can c'.rest with _ | _
        · have hFc : c' = F := by rw [← hF, CN.pour_stop hc]
          subst hFc
          have hpc : c'.piece c'.rest = c' := by unfold CN.piece; rw [hc]; rfl
          have HC := Lib.hid hc
          have HP := Lib.hid hpc
          have HXD := Lib.hid hxd
          clear hc hpc hF ho hx hxd
          go_wp2_with fail
          refine wp_region_still_tail 15 (by kernel_rfl) (by kernel_rfl) ?_
          simp only [List.take_succ_cons, List.take_zero, List.drop_succ_cons, List.drop_zero]
          repeat still_step
          still_call ((ahead_any _ _ _).mono fun e w' h => ⟨h.1, h.2.symm⟩)
          repeat still_step
          refine wpStill_nil ?_
          change wpList _ _ _ _ _ wr.drew
          go_wp2_with fail
          refine (cpiece_in _ c'.rest hn1 HXD.out).mono ?_
          rw [HC.out, HP.out]
          rintro e w3 ⟨rfl, fp3, hx3, hf3, hi3⟩
          clear d18 d11 d12 hw ha hn1
          have d11 := hx3.c11
          have d12 := hx3.c12
          have d23 := hx3.c23
          have hwt := fun k => cwaits_in _ (hx3.drw (Drw.mk w3 k))
          have HX3 := Lib.hid hx3
          have hend : ∀ d, c'.idles = d → ∀ w4, CnTo w3 w4 B fp3 g d → CnTo w w4 B fp g c'.idles := fun d hd w4 k => by rw [hd]; exact CnTo.after hfx hix (CnTo.after (((Frm.refl _ _).drewN 1).next hf3 fun _ h => .inl h) hi3 k)
          have HE := Lib.hid hend
          clear hx3 hend hfx hix hf3 hi3
          go_upto_region 9 with fail
          by_cases e1 : c'.nxt = c'.una
          · have b1 : (c'.nxt == c'.una) = true := by simpa using e1
            rcases e2 : c'.waits with _ | _
            · rw [e2] at hwt
              have HWT := Lib.hid hwt
              have hid : c'.idles = c' := by unfold CN.idles; rw [if_neg (by rw [e2]; simp)]
              have HI := Lib.hid hid
              clear hwt e1 e2 hid
              go_quiet ((go_at_call 58; exact Drw.quiet (HWT.out _)))
              go_wp2_with fail
              go_end0
              exact ⟨rfl, HE.out _ HI.out _ (HX3.out.to.drw (Drw.mk _ _))⟩
            · rw [e2] at hwt
              have HWT := Lib.hid hwt
              by_cases e3 : c'.left = 0
              · have b3 : (c'.left == 0) = true := by simpa using e3
                have hid : c'.idles = c'.run := by unfold CN.idles; rw [if_pos ⟨e1, e2, e3⟩]
                have HI := Lib.hid hid
                clear hwt e1 e2 e3 hid
                go_quiet ((go_at_call 58; exact Drw.quiet (HWT.out _)))
                go_wp2_with fail
                refine (crun_in _ (HX3.out.drw (Drw.mk _ _))).mono ?_
                rintro e w4 ⟨rfl, hto⟩
                go_wp2_with fail
                go_end0
                exact ⟨rfl, HE.out _ HI.out _ (CnTo.after ((Frm.refl _ _).drewN _) (fun _ h => .inl h) hto)⟩
              · have b3 : (c'.left == 0) = false := by simpa using e3
                have hid : c'.idles = c' := by unfold CN.idles; rw [if_neg (by simp [e3])]
                have HI := Lib.hid hid
                clear hwt e1 e2 e3 hid
                go_quiet ((go_at_call 58; exact Drw.quiet (HWT.out _)))
                go_wp2_with fail
                go_end0
                exact ⟨rfl, HE.out _ HI.out _ (HX3.out.to.drw (Drw.mk _ _))⟩
          · have b1 : (c'.nxt == c'.una) = false := by simpa using e1
            have hid : c'.idles = c' := by unfold CN.idles; rw [if_neg (by simp [e1])]
            have HI := Lib.hid hid
            clear hwt e1 hid
            go_quiet (fail)
            go_wp2_with fail
            go_end0
            exact ⟨rfl, HE.out _ HI.out _ (HX3.out.to.drw (Drw.mk _ _))⟩
        · have hst := CN.pour_step hx.ok hc
          rw [hF] at hst
          have hlt := CN.step_fuel hx.ok hc
          have hpo := CN.piece_out hc
          have hro := (CN.runs_same (c'.piece c'.rest)).2.2
          have HC := Lib.hid hc
          have HXD := Lib.hid hxd
          have HST := Lib.hid hst
          have HPO := Lib.hid hpo
          have HRO := Lib.hid hro
          clear hc hF hx hxd hst hpo hro
          go_wp2_with fail
          refine wp_region_still_tail 15 (by kernel_rfl) (by kernel_rfl) ?_
          simp only [List.take_succ_cons, List.take_zero, List.drop_succ_cons, List.drop_zero]
          repeat still_step
          still_call ((ahead_any _ _ _).mono fun e w' h => ⟨h.1, h.2.symm⟩)
          repeat still_step
          refine wpStill_nil ?_
          change wpList _ _ _ _ _ wr.drew
          go_wp2_with fail
          refine (cpiece_in _ c'.rest hn1 HXD.out).mono ?_
          rw [HC.out]
          rintro e w3 ⟨rfl, fp3, hx3, hf3, hi3⟩
          clear d18 d11 d12 hw ha hn1
          have d23 := hx3.c23
          have HX3 := Lib.hid hx3
          have hfa : Frm fp1 wr w3 := ((Frm.refl _ _).drewN 1).next hf3 fun _ h => .inl h
          clear hx3
          by_cases e3 : (c'.piece c'.rest).left = 0
          · have b3 : ((c'.piece c'.rest).left == 0) = true := by simpa using e3
            have hru : (c'.piece c'.rest).runs = (c'.piece c'.rest).run := by unfold CN.runs; rw [if_pos e3]
            have HRU := Lib.hid hru
            clear e3 hru
            go_wp2_with fail
            refine (crun_in _ HX3.out).mono ?_
            rintro e w4 ⟨rfl, hto⟩
            go_wp2_with fail
            go_roundg (c'.piece c'.rest).runs.fuel
            case measure => exact hlt
            case rel =>
              refine ⟨_, rfl, ?_, HST.out.symm, by rw [HRO.out, HPO.out]; omega⟩
              rw [HRU.out]
              exact CnTo.after hfx hix (CnTo.after hfa hi3 hto)
          · have b3 : ((c'.piece c'.rest).left == 0) = false := by simpa using e3
            have hru : (c'.piece c'.rest).runs = (c'.piece c'.rest) := by unfold CN.runs; rw [if_neg e3]
            have HRU := Lib.hid hru
            clear e3 hru
            go_wp2_with fail
            go_roundg (c'.piece c'.rest).runs.fuel
            case measure => exact hlt
            case rel =>
              refine ⟨_, rfl, ?_, HST.out.symm, by rw [HRO.out, HPO.out]; omega⟩
              rw [HRU.out]
              exact CnTo.after hfx hix (CnTo.after hfa hi3 HX3.out.to)

end Go.Proofs.Ytpmlojgngcllfaa
