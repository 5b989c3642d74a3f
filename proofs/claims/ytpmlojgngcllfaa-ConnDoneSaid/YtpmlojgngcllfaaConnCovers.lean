/- The contracts of package conn: covers. -/
import Derived.Test.YtpmlojgngcllfaaConnLen
namespace Go.Proofs.Ytpmlojgngcllfaa
open Go.RowKit Go

/-- Only the stream turns. -/
theorem CnTo.strm {w w' : World} {B g : Nat} {fp : List Nat} {c : CN} {gs gi gd gh gc : Nat} {rv ov : Value} {k : SB} (h : CnIn w B fp g c) (hin : ConnIn w B g gs gi gd gh gc rv ov c) (hfp : fp = [g, gs, gi, gd, gh, gc] ++ rv.ownBlock.toList ++ ov.ownBlock.toList)
    (hb : Blk w' gs 78 k.cells) (hf : Frm [gs] w w') (hk : k.Ok) : CnTo w w' B fp g { c with sb := k } := by
  have ho := h.ok
  have hB := h.size
  have n1 : g ≠ gs := hin.blk.ne_ hin.sb (by decide)
  have n3 : gi ≠ gs := hin.rb.blk.ne_ hin.sb (by decide)
  have n4 : gd ≠ gs := hin.rb.dat.ne_ hin.sb (by decide)
  have n5 : gh ≠ gs := hin.rb.has.ne_ hin.sb (by decide)
  have n2 : gc ≠ gs := hin.clk.ne_ hin.sb (by decide)
  have n6 := own_ne hin.rb.own hin.sb (by decide)
  have n7 := own_ne hin.own hin.sb (by decide)
  have hm : ∀ x, x ∈ [gs] → x = gs := fun x hx => by simpa using hx
  refine ⟨fp, ⟨gs, gi, gd, gh, gc, rv, ov, ⟨hin.blk.frm hf (by simpa using n1), hb, hin.rb.frm hf (by simpa using n3) (by simpa using n4) (by simpa using n5) (fun x hx hx2 => n6 (by rw [hx, hm x hx2])), hin.clk.frm hf (by simpa using n2), own_frm hin.own hf (fun x hx hx2 => n7 (by rw [hx, hm x hx2]))⟩, hfp, ⟨hk, ho.rb, ho.clk, ho.opt, ho.win, ho.mss, ho.tr, ho.left, ho.lin⟩, Nat.le_trans hB hf.size⟩, hf.mono fun i hi => .inl ?_, fun i hi => .inl hi⟩
  rw [hm i hi, hfp]
  simp

theorem CN.Ok.rest0 {c : CN} (h : c.Ok) : CN.Ok { c with tries := 0, left := 0 } :=
  ⟨h.sb, h.rb, h.clk, h.opt, h.win, h.mss, ⟨Int.le_refl 0, show (0 : Int) ≤ 101 by decide⟩, ⟨Int.le_refl 0, show (0 : Int) ≤ 1048576 by decide⟩, h.lin⟩
def cov0 (c : CN) (D : Bool) (a : Int) : CN := if D then { c with una := a, acked := true } else { c with una := a }
def low (D : Bool) (a : Int) : Int := if D then (a - 1) % 4294967296 else a
theorem low_bd {D : Bool} {a : Int} (h0 : 0 ≤ a) (h1 : a < 4294967296) : 0 ≤ low D a ∧ low D a < 4294967296 := by
  unfold low
  split <;> omega
theorem cov1_eq (c : CN) (a : Int) (D : Bool) (hD : decide (c.closed = true ∧ a = (c.fin + 1) % M32) = D) : c.cov1 a = { cov0 c D a with sb := (cov0 c D a).sb.ack (low D a) } := by
  unfold CN.cov1 cov0 low
  cases D
  · rw [if_neg (by simpa using hD)]
    rfl
  · rw [if_pos (by simpa using hD)]
    rfl
theorem CN.Ok.same {c d : CN} (h : c.Ok) (e1 : d.sb = c.sb) (e2 : d.rb = c.rb) (e3 : d.clk = c.clk) (e4 : d.o = c.o) (e5 : d.window = c.window) (e6 : d.mss = c.mss) (e7 : d.tries = c.tries) (e9 : d.left = c.left) (e10 : d.lingers = c.lingers) : d.Ok :=
  ⟨e1 ▸ h.sb, e2 ▸ h.rb, e3 ▸ h.clk, e4 ▸ h.opt, e5 ▸ h.win, e6 ▸ h.mss, by rw [e7]; exact h.tr, by rw [e9]; exact h.left, by rw [e10]; exact h.lin⟩

set_option maxRecDepth 100000 in
set_option maxHeartbeats 4000000 in
theorem ccovers1 {B g : Nat} {fp : List Nat} {c : CN} (w : World) (a : Int) (a0 : 0 ≤ a) (a1 : a < 4294967296) (hA : lessB c.una a = true) (h : CnIn w B fp g c) :
    Calls Try.prog 43 #[.pointer (some ⟨g, 0, none⟩), .int .u32 a] w fun e w' => e = .returned (.tuple #[]) ∧ CnTo w w' B fp g (((c.cov1 a).cov2).cov3.cov4) := by
  have d11 := h.c11
  have f11 := h.fz 11
  have hl := less_any c.una a w
  rw [hA] at hl
  have h1 := CnTo.self (w' := w.setCell ⟨g, 11, none⟩ (.int .u32 a)) (c' := { c with una := a }) h (fun _ _ _ _ hb => hb.set_to 11 _ rfl) ((Frm.refl _ _).setCell (.inl (by simp)) _) rfl rfl rfl rfl (fun h => h.same rfl rfl rfl rfl rfl rfl rfl rfl rfl)
  obtain ⟨c1, e1⟩ : ∃ c1, c.cov1 a = c1 := ⟨_, rfl⟩
  obtain ⟨c2, e2⟩ : ∃ c2, c1.cov2 = c2 := ⟨_, rfl⟩
  obtain ⟨c3, e3⟩ : ∃ c3, c2.cov3 = c3 := ⟨_, rfl⟩
  rw [e1, e2, e3]
  have HE1 := Lib.hid e1
  have HE2 := Lib.hid e2
  have HE3 := Lib.hid e3
  have HL := Lib.hid hl
  clear hl hA h e1 e2 e3
  go_enter Try.func43, Try.ntmps43
  go_upto_region 2 with (go_at_call 63; refine HL.out.mono ?_; rintro e w' ⟨rfl, rfl⟩)
  refine wp_world (fun wx => CnTo w wx B fp g { c with una := a }) h1 ?_
  clear h1 d11 f11 HL
  rintro wx ⟨fp1, hx, hfx, hix⟩
  obtain ⟨D, hD⟩ : ∃ D, decide (c.closed = true ∧ a = (c.fin + 1) % M32) = D := ⟨_, rfl⟩
  have d14 : wx.cell? ⟨g, 14, none⟩ = some (.bool c.closed) := hx.c14
  have hfin : Calls Try.prog 64 #[.pointer (some ⟨g, 0, none⟩)] wx fun e w' => e = .returned (.int .u32 c.fin) ∧ wx = w' := by have := cfin_in wx hx; exact this
  have HFIN := Lib.hid hfin
  have HX := Lib.hid hx
  clear hx hfin
  go_cut [25] (fun u wy => u = .bool D ∧ wx = wy)
  case first =>
    rcases hcl : c.closed with _ | _
    · rw [hcl] at d14
      have hDf : D = false := by rw [← hD, hcl]; simp
      have HD := Lib.hid hDf
      clear hD hDf hcl
      go_wp2_with fail
      go_meet
      exact ⟨by rw [HD.out], rfl⟩
    · rw [hcl] at d14
      by_cases hf : a = (c.fin + 1) % 4294967296
      · have b1 : (a == (c.fin + 1) % 4294967296) = true := by simpa using hf
        have hDf : D = true := by rw [← hD, hcl]; simpa [M32] using hf
        have HD := Lib.hid hDf
        clear hD hDf hcl hf
        go_wp2_with (go_at_call 64; refine HFIN.out.mono ?_; rintro e w' ⟨rfl, rfl⟩)
        go_meet
        exact ⟨by rw [HD.out], rfl⟩
      · have b1 : (a == (c.fin + 1) % 4294967296) = false := by simpa using hf
        have hDf : D = false := by rw [← hD, hcl]; simpa [M32] using hf
        have HD := Lib.hid hDf
        clear hD hDf hcl hf
        go_wp2_with (go_at_call 64; refine HFIN.out.mono ?_; rintro e w' ⟨rfl, rfl⟩)
        go_meet
        exact ⟨by rw [HD.out], rfl⟩
  case rest =>
    obtain ⟨rfl, rfl⟩ := hcut
    have hc1 := cov1_eq c a D hD
    have HC1 := Lib.hid hc1
    clear hD d14 HFIN hc1
    have f15 := HX.out.fz 15
    have d15 := HX.out.c15
    go_upto_if 25 with fail
    go_cut [1] (fun v wy => v = .int .u32 (low D a) ∧ CnTo wx wy B fp1 g (cov0 c D a))
    case first =>
      rcases D with _ | _
      · go_wp2_with fail
        go_meet
        exact ⟨rfl, HX.out.to⟩
      · go_wp2_with fail
        go_meet
        exact ⟨rfl, CnTo.self (c' := { c with una := a, acked := true }) HX.out (fun _ _ _ _ hb => hb.set_to 15 _ rfl) ((Frm.refl _ _).setCell (.inl (by simp)) _) rfl rfl rfl rfl (fun h => h.same rfl rfl rfl rfl rfl rfl rfl rfl rfl)⟩
    case rest =>
      obtain ⟨rfl, fp2, hy, hfy, hiy⟩ := hcut
      clear f15 d15 HX
      obtain ⟨n0, n1⟩ := low_bd (D := D) a0 a1
      have hto0 := fun (d : CN) (wz : World) (k : CnTo wc wz B fp2 g d) => CnTo.after hfx hix (CnTo.after hfy hiy k)
      have hy0 := hy
      obtain ⟨gs, gi, gd, gh, gc, rv, ov, hin, hfp, ho, hB⟩ := hy
      have d10 : wc.cell? ⟨g, 10, none⟩ = some (.pointer (some ⟨gs, 0, none⟩)) := hin.blk.cell 10
      have hak := sack_blk gs (cov0 c D a).sb (low D a) wc ho.sb hin.sb
      have hst := fun wz (hb : Blk wz gs 78 ((cov0 c D a).sb.ack (low D a)).cells) (hf : Frm [gs] wc wz) => CnTo.strm hy0 hin hfp hb hf (ho.sb.ack n0 n1)
      have HAK := Lib.hid hak
      have HST := Lib.hid hst
      have HTO := Lib.hid hto0
      clear hak hst hto0 hin hy0 hfp ho hfx hix hfy hiy
      generalize low D a = a2 at *
      go_upto_region 6 with (go_at_call 65; refine HAK.out.mono ?_; rintro e wd ⟨rfl, hbd, hfd⟩)
      refine wp_world (fun wx => CnTo w wx B fp g c1) (by rw [← HE1.out, HC1.out]; exact HTO.out _ _ (HST.out _ hbd hfd)) ?_
      clear d10 hbd hfd HAK HST HTO HC1 n0 n1 hB
      rintro wx ⟨fp1, hx, hfx, hix⟩
      have d12 := hx.c12
      have d11 := hx.c11
      have HX := Lib.hid hx
      clear hx
      go_quiet ((go_at_call 63; exact quiet_left (less_any _ _ _)))
      go_upto_if 45 with fail
      refine wp_world (fun wy => CnTo w wy B fp g c1) (CnTo.after hfx hix (HX.out.to.drw (Drw.mk _ _))) ?_
      clear d12 d11 hfx hix HX
      rintro wy ⟨fp1, hx, hfx, hix⟩
      have d11 := hx.c11
      have d12 := hx.c12
      have f12 := hx.fz 12
      have HX := Lib.hid hx
      clear hx
      go_cut [] (fun wz => CnTo w wz B fp g c2)
      case first =>
        rcases hl : lessB c1.nxt c1.una with _ | _
        · have hc2 : c2 = c1 := by rw [← HE2.out]; unfold CN.cov2; rw [hl]; rfl
          have HC2 := Lib.hid hc2
          clear hl hc2
          go_wp2_with fail
          go_meet
          rw [HC2.out]
          exact CnTo.after hfx hix HX.out.to
        · have hc2 : c2 = { c1 with nxt := c1.una } := by rw [← HE2.out]; unfold CN.cov2; rw [hl]; rfl
          have HC2 := Lib.hid hc2
          clear hl hc2
          go_wp2_with fail
          go_meet
          rw [HC2.out]
          exact CnTo.after hfx hix (CnTo.self (c' := { c1 with nxt := c1.una }) HX.out (fun _ _ _ _ hb => hb.set_to 12 _ rfl) ((Frm.refl _ _).setCell (.inl (by simp)) _) rfl rfl rfl rfl (fun h => h.same rfl rfl rfl rfl rfl rfl rfl rfl rfl))
      case rest =>
        clear d11 d12 f12 HX hfx hix
        obtain ⟨fp1, hx, hfx, hix⟩ := hcut
        have d25 := hx.c25
        have d11 := hx.c11
        have d26 := hx.c26
        have HX := Lib.hid hx
        obtain ⟨D, hD⟩ : ∃ D, decide (c2.measures = true ∧ lessB c2.una c2.measureTo = false) = D := ⟨_, rfl⟩
        clear hx
        go_upto_region 8 with fail
        go_cut [68] (fun u wy => u = .bool D ∧ CnTo w wy B fp g c2)
        case first =>
          rcases hms : c2.measures with _ | _
          · have d25' : wc.cell? ⟨g, 25, none⟩ = some (.bool false) := d25.trans (by rw [← hms])
            have hDf : D = false := by rw [← hD, hms]; simp
            have HD := Lib.hid hDf
            clear hD hDf hms d25
            go_quiet (fail)
            go_wp2_with fail
            go_meet
            exact ⟨by rw [HD.out], CnTo.after hfx hix (HX.out.to.drw (Drw.mk _ _))⟩
          · have d25' : wc.cell? ⟨g, 25, none⟩ = some (.bool true) := d25.trans (by rw [← hms])
            have hless := fun k => less_any c2.una c2.measureTo (wc.drewN k)
            have hDf : D = !lessB c2.una c2.measureTo := by rw [← hD, hms]; cases lessB c2.una c2.measureTo <;> rfl
            rcases hl : lessB c2.una c2.measureTo with _ | _
            all_goals
              rw [hl] at hless hDf
              have HD := Lib.hid hDf
              have HLESS := Lib.hid hless
              clear hD hDf hms d25 hless hl
              go_quiet ((go_at_call 63; exact quiet_left (HLESS.out _)))
              go_wp2_with fail
              go_meet
              exact ⟨by rw [HD.out]; rfl, CnTo.after hfx hix (HX.out.to.drw (Drw.mk _ _))⟩
        case rest =>
          obtain ⟨rfl, hto⟩ := hcut
          clear d25 d11 d26 HX hfx hix
          have hc3 : c3 = if D = true then { c2 with clk := c2.clk.measure c2.age, measures := false } else c2 := by
            rw [← HE3.out]
            unfold CN.cov3
            rw [← hD]
            simp
          have HC3 := Lib.hid hc3
          clear hc3 hD
          obtain ⟨fp1, hx, hfx, hix⟩ := hto
          go_upto_if 68 with fail
          go_cut [] (fun wz => CnTo w wz B fp g c3)
          case first =>
            rcases D with _ | _
            · go_wp2_with fail
              go_meet
              rw [HC3.out]
              exact CnTo.after hfx hix hx.to
            · have hx0 := hx
              obtain ⟨gs, gi, gd, gh, gc, rv, ov, hin, hfp, ho, hB⟩ := hx
              have d22 := hin.blk.cell 22
              have d27 := hx0.c27
              have d22' : wc.cell? ⟨g, 22, none⟩ = some (.pointer (some ⟨gc, 0, none⟩)) := d22
              have hms := measure_blk gc c2.clk c2.age wc.drew ho.clk hin.clk.drew
              have hst := fun wz (hb : Blk wz gc 89 (c2.clk.measure c2.age).cells) (hf : Frm [gc] wc wz) => CnTo.clk hx0 hin hfp hb hf (ho.clk.measure c2.age)
              have HMS := Lib.hid hms
              have HST := Lib.hid hst
              clear hms hst hin hfp ho hB hx0 d22
              go_upto_region 9 with fail
              refine wp_region_still_tail 8 (by kernel_rfl) (by kernel_rfl) ?_
              simp only [List.take_succ_cons, List.take_zero, List.drop_succ_cons, List.drop_zero]
              repeat still_step
              refine wpStill_nil ?_
              change wpList _ _ _ _ _ wc.drew
              go_upto_region 10 with (go_at_call 66; refine HMS.out.mono ?_; rintro e wz ⟨rfl, hbz, hfz⟩)
              obtain ⟨fp2, hy, hfy, hiy⟩ := HST.out _ hbz ((Frm.refl _ _).drew.next hfz (fun i hi => .inl hi))
              clear HMS HST hbz hfz d22' d27
              have f25 := hy.fz 25
              have d25 := hy.c25
              go_wp2_with fail
              go_meet
              rw [HC3.out, if_pos trivial]
              exact CnTo.after hfx hix (CnTo.after hfy hiy (CnTo.self (c' := { c2 with clk := c2.clk.measure c2.age, measures := false }) hy (fun _ _ _ _ hb => hb.set_to 25 _ rfl) ((Frm.refl _ _).setCell (.inl (by simp)) _) rfl rfl rfl rfl (fun h => h.same rfl rfl rfl rfl rfl rfl rfl rfl rfl)))
          case rest =>
            clear hx hfx hix HC3
            obtain ⟨fp1, hx, hfx, hix⟩ := hcut
            have d23 := hx.c23
            have d24 := hx.c24
            have f23 := hx.fz 23
            have f24 := hx.fz 24
            go_upto_region 12 with fail
            refine wp_world (fun wy => CnTo w wy B fp g { c3 with tries := 0, left := 0 }) (CnTo.after hfx hix (CnTo.self (c' := { c3 with tries := 0, left := 0 }) hx (fun _ _ _ _ hb => (hb.set_ 24 _).set_to 23 _ rfl) (((Frm.refl _ _).setCell (.inl (by simp)) _).setCell (.inl (by simp)) _) rfl rfl rfl rfl (fun h => h.rest0))) ?_
            clear hx hfx hix d23 d24 f23 f24
            rintro wy ⟨fp1, hx, hfx, hix⟩
            have d11 : wy.cell? ⟨g, 11, none⟩ = some (.int .u32 c3.una) := hx.c11
            have d13 : wy.cell? ⟨g, 13, none⟩ = some (.int .u32 c3.top) := hx.c13
            by_cases hu : c3.una = c3.top
            · have b1 : (c3.una != c3.top) = false := by simpa using hu
              have hc4 : c3.cov4 = { c3 with tries := 0, left := 0 } := by unfold CN.cov4; rw [if_pos hu]
              have HC4 := Lib.hid hc4
              clear hu hc4
              go_quiet (fail)
              go_wp2_with fail
              go_end0
              refine ⟨rfl, ?_⟩
              rw [HC4.out]
              exact CnTo.after hfx hix (hx.to.drw (Drw.mk _ _))
            · have b1 : (c3.una != c3.top) = true := by simpa using hu
              have hc4 : c3.cov4 = CN.run { c3 with tries := 0, left := 0 } := by unfold CN.cov4; rw [if_neg hu]; rfl
              have HC4 := Lib.hid hc4
              clear hu hc4
              go_quiet (fail)
              go_wp2_with fail
              refine (crun_in _ (hx.drw (Drw.mk _ _))).mono ?_
              rintro e w4 ⟨rfl, hto⟩
              go_wp2_with fail
              go_end0
              refine ⟨rfl, ?_⟩
              rw [HC4.out]
              exact CnTo.after hfx hix (CnTo.after ((Frm.refl _ _).drewN _) (fun _ h => .inl h) hto)

theorem ccovers_in {B g : Nat} {fp : List Nat} {c : CN} (w : World) (a : Int) (a0 : 0 ≤ a) (a1 : a < 4294967296) (h : CnIn w B fp g c) :
    Calls Try.prog 43 #[.pointer (some ⟨g, 0, none⟩), .int .u32 a] w fun e w' => e = .returned (.tuple #[]) ∧ CnTo w w' B fp g (c.covers a) := by
  unfold CN.covers
  rcases hA : lessB c.una a with _ | _
  · rw [if_neg (by simp)]
    have d11 := h.c11
    have hl := less_any c.una a w
    rw [hA] at hl
    have HL := Lib.hid hl
    clear hl hA
    go_enter Try.func43, Try.ntmps43
    go_wp2_with (go_at_call 63; refine HL.out.mono ?_; rintro e w' ⟨rfl, rfl⟩)
    refine bodyPost_ret (results_none rfl _ _ _) rfl ?_
    exact ⟨rfl, CnIn.to h⟩
  · rw [if_pos rfl]
    exact ccovers1 w a a0 a1 hA h

end Go.Proofs.Ytpmlojgngcllfaa
