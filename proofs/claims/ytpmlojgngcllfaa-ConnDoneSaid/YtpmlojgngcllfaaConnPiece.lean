/- The contracts of package conn: piece. -/
import Derived.Test.YtpmlojgngcllfaaConnTell
namespace Go.Proofs.Ytpmlojgngcllfaa
open Go.RowKit Go

/-- Something was sent up to nxt. -/
def CN.sentN (c : CN) (k : Int) (fl : Int) (d : List UInt8) : CN := { c.say c.nxt fl 0 d with nxt := (c.nxt + k) % 4294967296 }

set_option maxRecDepth 100000 in
set_option maxHeartbeats 1000000 in
theorem cpiece_in {B g : Nat} {fp : List Nat} {c : CN} (w : World) (n : Int) (hn : c.out.length ≤ 1000000) (h : CnIn w B fp g c) :
    Calls Try.prog 56 #[.pointer (some ⟨g, 0, none⟩), .int .i64 n] w fun e w' => e = .returned (.bool (c.can n)) ∧ CnTo w w' B fp g (c.piece n) := by
  have h0 := h
  obtain ⟨gs, gi, gd, gh, gc, rv, ov, hin, -, ho, -⟩ := h
  have d10 : w.cell? ⟨g, 10, none⟩ = some (.pointer (some ⟨gs, 0, none⟩)) := hin.blk.cell 10
  have d12 : w.cell? ⟨g, 12, none⟩ = some (.int .u32 c.nxt) := hin.blk.cell 12
  have d19 : w.cell? ⟨g, 19, none⟩ = some (.int .i64 c.mss) := hin.blk.cell 19
  obtain ⟨m, hm⟩ : ∃ m, (if c.mss < n then c.mss else n) = m := ⟨_, rfl⟩
  have hbit : c.bit n = c.sb.get c.nxt m := by
    unfold CN.bit
    rw [← hm]
    congr 1
    split <;> omega
  have hget := fun k => sget_blk gs c.sb c.nxt m (w.drewN k) ho.sb (hin.sb.drewN k)
  rw [← hbit] at hget
  have HGET := Lib.hid hget
  have hdrw := fun k => h0.drw (Drw.mk w k)
  have HIN := Lib.hid hdrw
  have HBIT := Lib.hid hbit
  have HO := Lib.hid ho
  have H0 := Lib.hid h0
  clear hget hdrw hbit hin ho h0
  rcases Int.lt_or_le n 1 with h1 | h1
  · have hcan : c.can n = false := by simp [CN.can]; omega
    have HC := Lib.hid hcan
    clear hcan
    go_enter Try.func56, Try.ntmps56
    go_wp2_with fail
    go_quiet ((go_at_call 72; exact Drw.quiet (HGET.out _)))
    go_wp2_with fail
    go_ret
    exact ⟨ret_bool HC.out.symm, by unfold CN.piece; rw [HC.out]; exact H0.out.to.drw (Drw.mk _ _)⟩
  · rcases hwt : c.waits with _ | _
    · have hcan : c.can n = false := by simp [CN.can, hwt]
      have HC := Lib.hid hcan
      have HW := Lib.hid hwt
      clear hcan hwt
      go_enter Try.func56, Try.ntmps56
      go_wp2_with fail
      go_quiet ((go_at_call 72; exact Drw.quiet (HGET.out _)))
      go_wp2_with fail
      refine (cwaits_in _ (HIN.out _)).mono ?_
      rw [HW.out]
      rintro e w2 ⟨rfl, hd⟩
      go_wp2_with fail
      go_ret
      exact ⟨ret_bool HC.out.symm, by unfold CN.piece; rw [HC.out]; exact (H0.out.to.drw (Drw.mk _ _)).drw hd⟩
    · have hcan : c.can n = true := by simp [CN.can, hwt]; omega
      have HC := Lib.hid hcan
      have HW := Lib.hid hwt
      clear hcan hwt
      have htail : ∀ D, c.bit n = D → (D = [] → c.sent n = c.sentN 1 17 []) ∧ (D ≠ [] → c.sent n = c.sentN D.length 24 D) := fun D hD => by
        unfold CN.sent CN.sentN
        rw [hD]
        exact ⟨fun h => by rw [if_pos h]; rfl, fun h => by rw [if_neg h]; rfl⟩
      have hlen : (c.bit n).length ≤ 2048 := by rw [HBIT.out]; exact sget_len HO.out.sb _ _
      have HT := Lib.hid htail
      clear htail
      rcases hb : c.bit n with _ | ⟨x, xs⟩
      all_goals
        rw [hb] at HGET hlen
        have HB := Lib.hid hb
        clear hb
        go_enter Try.func56, Try.ntmps56
        go_wp2_with fail
        go_quiet ((go_at_call 72; exact Drw.quiet (HGET.out _)))
        go_wp2_with fail
        refine (cwaits_in _ (HIN.out _)).mono ?_
        rw [HW.out]
        rintro e w2 ⟨rfl, hd⟩
        have hx2 := (HIN.out _).drw hd
        have hfw : Frm fp w w2 := hd.next ((Frm.refl _ _).drewN _)
        have d12 := hx2.c12
        have HX2 := Lib.hid hx2
        clear hx2
        go_wp2_with fail
      · refine (csend_in _ c.nxt 1 17 [] or_1 hn HX2.out).mono ?_
        rintro e w3 ⟨rfl, hto3⟩
        obtain ⟨fp3, hx3, hf3, hi3⟩ := hto3
        have d12 : w3.cell? ⟨g, 12, none⟩ = some (.int .u32 c.nxt) := hx3.c12
        have f12 := hx3.fz 12
        have hfin := CnTo.self (c' := c.sentN 1 17 []) hx3 (fun _ _ _ _ hb => hb.set_to 12 (.int .u32 ((c.nxt + 1) % 4294967296)) rfl) ((Frm.refl _ _).setCell (.inl (by simp)) _) rfl rfl rfl rfl (fun h => ⟨h.sb, h.rb, h.clk, h.opt, h.win, h.mss, h.tr, h.left, h.lin⟩)
        have HF := Lib.hid hfin
        clear hfin
        go_upto_region 9 with fail
        refine wp_world (fun wx => ∃ c1, c.sent n = c1 ∧ CnTo w wx B fp g c1) ⟨c.sentN 1 17 [], (HT.out _ HB.out).1 rfl, CnTo.after hfw (fun _ h => .inl h) (CnTo.after hf3 hi3 HF.out)⟩ ?_
        rintro wx ⟨c1, hc1, hto⟩
        have HC1 := Lib.hid hc1
        clear hc1 HF HX2 HT HB HGET HIN H0 d10 d12 d19 f12 hx3 hf3 hi3 hfw hd
        obtain ⟨fp1, hx, hfx, hix⟩ := hto
        have d12 := hx.c12
        have d13 := hx.c13
        have f13 := hx.fz 13
        have HX := Lib.hid hx
        clear hx
        rcases hl : lessB c1.top c1.nxt with _ | _
        · have hless := fun k => less_any c1.top c1.nxt (wx.drewN k)
          rw [hl] at hless
          have HL := Lib.hid hl
          have HLESS := Lib.hid hless
          clear hl hless
          go_quiet ((go_at_call 63; exact quiet_left (HLESS.out _)))
          go_wp2_with fail
          go_ret
          refine ⟨ret_bool HC.out.symm, CnTo.after hfx hix ?_⟩
          unfold CN.piece CN.went
          rw [HC.out, HC1.out, HL.out]
          exact HX.out.to.drw (Drw.mk _ _)
        · have hless := fun k => less_any c1.top c1.nxt (wx.drewN k)
          rw [hl] at hless
          have HL := Lib.hid hl
          have HLESS := Lib.hid hless
          clear hl hless
          go_quiet ((go_at_call 63; exact quiet_left (HLESS.out _)))
          go_upto_region 11 with fail
          refine wp_world (fun wy => CnTo wx wy B fp1 g { c1 with top := c1.nxt }) (CnTo.self HX.out (fun _ _ _ _ hb => (hb.drewN _).set_to 13 _ rfl) (((Frm.refl _ _).drewN _).setCell (.inl (by simp)) _) rfl rfl rfl rfl (fun h => ⟨h.sb, h.rb, h.clk, h.opt, h.win, h.mss, h.tr, h.left, h.lin⟩)) ?_
          rintro wy ⟨fp2, hy, hfy, hiy⟩
          clear d12 d13 f13 HX
          have d25 := hy.c25
          rcases hms : c1.measures with _ | _
          · have d25' : wy.cell? ⟨g, 25, none⟩ = some (.bool false) := d25.trans (by rw [← hms])
            have HM := Lib.hid hms
            clear d25 hms
            go_wp2_with (go_at_call 54; refine (cmeasure_in _ hy).mono ?_; rintro e w' ⟨rfl, hto⟩)
            go_ret
            refine ⟨ret_bool HC.out.symm, CnTo.after hfx hix (CnTo.after hfy hiy ?_)⟩
            unfold CN.piece CN.went
            rw [HC.out, HC1.out, HL.out, HM.out]
            exact hto
          · have d25' : wy.cell? ⟨g, 25, none⟩ = some (.bool true) := d25.trans (by rw [← hms])
            have HM := Lib.hid hms
            clear d25 hms
            go_wp2_with fail
            go_ret
            refine ⟨ret_bool HC.out.symm, CnTo.after hfx hix (CnTo.after hfy hiy ?_)⟩
            unfold CN.piece CN.went
            rw [HC.out, HC1.out, HL.out, if_pos rfl, if_pos rfl, if_pos HM.out]
            exact hy.to
      · refine (csend_in _ c.nxt 8 24 (x :: xs) or_8 hn HX2.out).mono ?_
        rintro e w3 ⟨rfl, hto3⟩
        obtain ⟨fp3, hx3, hf3, hi3⟩ := hto3
        have d12 : w3.cell? ⟨g, 12, none⟩ = some (.int .u32 c.nxt) := hx3.c12
        have f12 := hx3.fz 12
        have hfin := CnTo.self (c' := c.sentN (x :: xs).length 24 (x :: xs)) hx3 (fun _ _ _ _ hb => hb.set_to 12 (.int .u32 ((c.nxt + (x :: xs).length) % 4294967296)) rfl) ((Frm.refl _ _).setCell (.inl (by simp)) _) rfl rfl rfl rfl (fun h => ⟨h.sb, h.rb, h.clk, h.opt, h.win, h.mss, h.tr, h.left, h.lin⟩)
        have HF := Lib.hid hfin
        clear hfin
        generalize hD : x :: xs = D at *
        go_upto_region 9 with fail
        refine wp_world (fun wx => ∃ c1, c.sent n = c1 ∧ CnTo w wx B fp g c1) ⟨_, (HT.out _ HB.out).2 (by simp [← hD]), CnTo.after hfw (fun _ h => .inl h) (CnTo.after hf3 hi3 HF.out)⟩ ?_
        rintro wx ⟨c1, hc1, hto⟩
        have HC1 := Lib.hid hc1
        clear hc1 HF HX2 HT HB HGET HIN H0 d10 d12 d19 f12 hx3 hf3 hi3 hfw hd
        obtain ⟨fp1, hx, hfx, hix⟩ := hto
        have d12 := hx.c12
        have d13 := hx.c13
        have f13 := hx.fz 13
        have HX := Lib.hid hx
        clear hx
        rcases hl : lessB c1.top c1.nxt with _ | _
        · have hless := fun k => less_any c1.top c1.nxt (wx.drewN k)
          rw [hl] at hless
          have HL := Lib.hid hl
          have HLESS := Lib.hid hless
          clear hl hless
          go_quiet ((go_at_call 63; exact quiet_left (HLESS.out _)))
          go_wp2_with fail
          go_ret
          refine ⟨ret_bool HC.out.symm, CnTo.after hfx hix ?_⟩
          unfold CN.piece CN.went
          rw [HC.out, HC1.out, HL.out]
          exact HX.out.to.drw (Drw.mk _ _)
        · have hless := fun k => less_any c1.top c1.nxt (wx.drewN k)
          rw [hl] at hless
          have HL := Lib.hid hl
          have HLESS := Lib.hid hless
          clear hl hless
          go_quiet ((go_at_call 63; exact quiet_left (HLESS.out _)))
          go_upto_region 11 with fail
          refine wp_world (fun wy => CnTo wx wy B fp1 g { c1 with top := c1.nxt }) (CnTo.self HX.out (fun _ _ _ _ hb => (hb.drewN _).set_to 13 _ rfl) (((Frm.refl _ _).drewN _).setCell (.inl (by simp)) _) rfl rfl rfl rfl (fun h => ⟨h.sb, h.rb, h.clk, h.opt, h.win, h.mss, h.tr, h.left, h.lin⟩)) ?_
          rintro wy ⟨fp2, hy, hfy, hiy⟩
          clear d12 d13 f13 HX
          have d25 := hy.c25
          rcases hms : c1.measures with _ | _
          · have d25' : wy.cell? ⟨g, 25, none⟩ = some (.bool false) := d25.trans (by rw [← hms])
            have HM := Lib.hid hms
            clear d25 hms
            go_wp2_with (go_at_call 54; refine (cmeasure_in _ hy).mono ?_; rintro e w' ⟨rfl, hto⟩)
            go_ret
            refine ⟨ret_bool HC.out.symm, CnTo.after hfx hix (CnTo.after hfy hiy ?_)⟩
            unfold CN.piece CN.went
            rw [HC.out, HC1.out, HL.out, HM.out]
            exact hto
          · have d25' : wy.cell? ⟨g, 25, none⟩ = some (.bool true) := d25.trans (by rw [← hms])
            have HM := Lib.hid hms
            clear d25 hms
            go_wp2_with fail
            go_ret
            refine ⟨ret_bool HC.out.symm, CnTo.after hfx hix (CnTo.after hfy hiy ?_)⟩
            unfold CN.piece CN.went
            rw [HC.out, HC1.out, HL.out, if_pos rfl, if_pos rfl, if_pos HM.out]
            exact hy.to

end Go.Proofs.Ytpmlojgngcllfaa
