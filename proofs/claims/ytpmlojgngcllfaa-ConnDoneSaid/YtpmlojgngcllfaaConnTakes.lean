/- The contracts of package conn: takes. -/
import Derived.Test.YtpmlojgngcllfaaConnCovers
import Derived.Test.YtpmlojgngcllfaaRbufPut
namespace Go.Proofs.Ytpmlojgngcllfaa
open Go.RowKit Go

/-- Only the buffer of what came turns. -/
theorem CnTo.rbuf {w w' : World} {B g : Nat} {fp : List Nat} {c : CN} {gs gi gd gh gc : Nat} {rv ov rv' : Value} {r' : RB} (h : CnIn w B fp g c) (hin : ConnIn w B g gs gi gd gh gc rv ov c) (hfp : fp = [g, gs, gi, gd, gh, gc] ++ rv.ownBlock.toList ++ ov.ownBlock.toList)
    (hr : RbIn w' B gi gd gh rv' r') (hf : Frm (gi :: gd :: gh :: rv.ownBlock.toList) w w') (hob : rv'.ownBlock = rv.ownBlock ∨ rv'.ownBlock = none ∨ ∃ k, rv'.ownBlock = some k ∧ w.heap.size ≤ k) (hk : r'.Ok) : CnTo w w' B fp g { c with rb := r' } := by
  have ho := h.ok
  have hB := h.size
  have a1 : g ≠ gi := hin.blk.ne_ hin.rb.blk (by decide)
  have a2 : g ≠ gd := hin.blk.ne_ hin.rb.dat (by decide)
  have a3 : g ≠ gh := hin.blk.ne_ hin.rb.has (by decide)
  have a4 := own_ne hin.rb.own hin.blk (by decide)
  have b1 : gs ≠ gi := hin.sb.ne_ hin.rb.blk (by decide)
  have b2 : gs ≠ gd := hin.sb.ne_ hin.rb.dat (by decide)
  have b3 : gs ≠ gh := hin.sb.ne_ hin.rb.has (by decide)
  have b4 := own_ne hin.rb.own hin.sb (by decide)
  have c1 : gc ≠ gi := hin.clk.ne_ hin.rb.blk (by decide)
  have c2 : gc ≠ gd := hin.clk.ne_ hin.rb.dat (by decide)
  have c3 : gc ≠ gh := hin.clk.ne_ hin.rb.has (by decide)
  have c4 := own_ne hin.rb.own hin.clk (by decide)
  have o1 := own_ne hin.own hin.rb.blk (by decide)
  have o2 := own_ne hin.own hin.rb.dat (by decide)
  have o3 := own_ne hin.own hin.rb.has (by decide)
  have o4 : ∀ k, ov.ownBlock = some k → rv.ownBlock ≠ some k := fun k hk => own_own_ne hin.own hin.rb.own (by decide) hk
  refine ⟨[g, gs, gi, gd, gh, gc] ++ rv'.ownBlock.toList ++ ov.ownBlock.toList, ⟨gs, gi, gd, gh, gc, rv', ov, ⟨hin.blk.frm hf (by simp [a1, a2, a3, a4]), hin.sb.frm hf (by simp [b1, b2, b3, b4]), hr, hin.clk.frm hf (by simp [c1, c2, c3, c4]), own_frm hin.own hf (fun k hk => ?_)⟩, rfl, ⟨ho.sb, hk, ho.clk, ho.opt, ho.win, ho.mss, ho.tr, ho.left, ho.lin⟩, Nat.le_trans hB hf.size⟩, hf.mono fun i hi => .inl ?_, fun i hi => ?_⟩
  · have e1 : k ≠ gi := fun e => o1 (by rw [hk, e])
    have e2 : k ≠ gd := fun e => o2 (by rw [hk, e])
    have e3 : k ≠ gh := fun e => o3 (by rw [hk, e])
    simp [e1, e2, e3, o4 k hk]
  · rw [hfp]
    simp only [List.mem_cons, Option.mem_toList] at hi
    rcases hi with rfl | rfl | rfl | hi <;> simp_all
  · rw [hfp]
    simp only [List.mem_append, Option.mem_toList] at hi
    rcases hi with (hi | hi) | hi
    · exact .inl (List.mem_append.2 (.inl (List.mem_append.2 (.inl hi))))
    · rcases hob with hb | hb | ⟨k, hb, hk2⟩
      · rw [hb] at hi
        exact .inl (by simp [hi])
      · rw [hb] at hi
        cases hi
      · rw [hb] at hi
        injection hi with e
        exact .inr (e ▸ hk2)
    · exact .inl (by simp [hi])

theorem CN.Ok.lingered {c : CN} (h : c.Ok) : CN.Ok { c with lingers := c.o.linger } :=
  ⟨h.sb, h.rb, h.clk, h.opt, h.win, h.mss, h.tr, h.left, ⟨by have := h.opt.l0; show 0 ≤ c.o.linger; omega, h.opt.l1⟩⟩

set_option maxRecDepth 100000 in
set_option maxHeartbeats 4000000 in
theorem ctakes_in {B g : Nat} {fp : List Nat} {c : CN} (w : World) (s : Sg) (hs : s.Ok) (h : CnIn w B fp g c) :
    Calls Try.prog 45 #[.pointer (some ⟨g, 0, none⟩), .agg #[.int .i64 s.frm, .int .i64 s.dst, .int .u32 s.seq, .int .u32 s.ack, .int .i64 s.flags, .int .i64 s.window, .int .i64 s.mss, .string ⟨s.data.toArray⟩]] w fun e w' => e = .returned (.tuple #[]) ∧ CnTo w w' B fp g (c.takes s) := by
  have hbox := boxed_new s h
  obtain ⟨c1, e1⟩ : ∃ c1, c.takes1 s = c1 := ⟨_, rfl⟩
  obtain ⟨c2, e2⟩ : ∃ c2, c1.takes2 s = c2 := ⟨_, rfl⟩
  have htk : c.takes s = if hasF s.flags 1 then c2.takes3 else c1 := by unfold CN.takes; rw [e1, e2]
  have HBOX := Lib.hid hbox
  have HE1 := Lib.hid e1
  have HE2 := Lib.hid e2
  have hdl := hs.dl
  have HTK := Lib.hid htk
  clear hbox h e1 e2 htk hs
  go_enter Try.func45, Try.ntmps45
  go_upto_region 1 with fail
  refine wp_world (fun wx => Boxed w wx B fp g w.heap.size c s) HBOX.out ?_
  clear HBOX
  rintro wx ⟨fp1, hx, hfx, hix, hb, hnb, hBb⟩
  generalize hbz : w.heap.size = b at *
  have d7 := hx.c7
  go_upto_block 0 with fail
  go_cut [] (fun wy => ∃ fp2, CnIn wy B fp2 g c1 ∧ Frm fp w wy ∧ (∀ i, i ∈ fp2 → i ∈ fp ∨ b ≤ i) ∧ Blk wy b 42 s.box)
  case first =>
    have hto1 : ∀ wy, CnTo wx wy B fp1 g c1 → ∃ fp2, CnIn wy B fp2 g c1 ∧ Frm fp w wy ∧ (∀ i, i ∈ fp2 → i ∈ fp ∨ b ≤ i) ∧ Blk wy b 42 s.box := fun wy k => by
      obtain ⟨fp2, hy, hfy, hiy, hb2, -, -⟩ := boxed_next hfx (fun i hi => hbz ▸ hix i hi) hb hnb (hbz ▸ hBb) k
      exact ⟨fp2, hy, hfy, fun i hi => hbz ▸ hiy i hi, hb2⟩
    have HT := Lib.hid hto1
    have x2 : wx.cell? ⟨b, 2, none⟩ = some (.int .u32 s.seq) := hb.cell 2
    have x7 : wx.cell? ⟨b, 7, none⟩ = some (.string ⟨s.data.toArray⟩) := hb.cell 7
    have HX := Lib.hid hx
    clear hx hfx hix hb hnb hBb hbz hto1
    by_cases hst : c.state = 2 ∨ c.state = 3 ∨ c.state = 4
    · have hc1 : c1 = { c with rb := c.rb.put s.seq s.data } := by rw [← HE1.out]; unfold CN.takes1; rw [if_pos hst]
      have HC1 := Lib.hid hc1
      clear hc1
      obtain ⟨gs, gi, gd, gh, gc, rv, ov, hin, hfp, ho, hB⟩ := HX.out
      have d16 : wx.cell? ⟨g, 16, none⟩ = some (.pointer (some ⟨gi, 0, none⟩)) := hin.blk.cell 16
      have hput := rput_in s.seq s.data wx.drew (by unfold maxLen; omega) ho.rb hB (hin.rb.drw (Drw.mk _ 1))
      have hend := fun (wy : World) rv' (hr : RbIn wy B gi gd gh rv' (c.rb.put s.seq s.data)) (hf : Frm (gi :: gd :: gh :: rv.ownBlock.toList) wx wy) (hob : rv'.ownBlock = rv.ownBlock ∨ rv'.ownBlock = none ∨ ∃ k, rv'.ownBlock = some k ∧ wx.heap.size ≤ k) => CnTo.rbuf HX.out hin hfp hr hf hob (ho.rb.put s.seq s.data)
      have HPUT := Lib.hid hput
      have HEND := Lib.hid hend
      clear hput hend hin hfp ho hB
      have hq : (c.state == 2) = true ∨ ((c.state == 2) = false ∧ (c.state == 3) = true) ∨ ((c.state == 2) = false ∧ (c.state == 3) = false ∧ (c.state == 4) = true) := by
        rcases hst with e | e | e <;> rw [e] <;> decide
      clear hst
      rcases hq with q2 | ⟨q2, q3⟩ | ⟨q2, q3, q4⟩
      all_goals
        go_upto_region 5 with fail
        refine wp_region_still_tail 8 (by kernel_rfl) (by kernel_rfl) ?_
        simp only [List.take_succ_cons, List.take_zero, List.drop_succ_cons, List.drop_zero]
        repeat still_step
        refine wpStill_nil ?_
        change wpList _ _ _ _ _ wx.drew
        go_wp2_with fail
        refine HPUT.out.mono ?_
        rintro e wy ⟨rfl, rv', hr, hf, hob⟩
        go_wp2_with fail
        go_meet
        refine HT.out _ ?_
        rw [HC1.out]
        refine HEND.out _ rv' hr ((Frm.refl _ _).drew.next hf (fun i hi => .inl hi)) ?_
        rcases hob with hob | ⟨k, hk1, hk2⟩
        · exact .inl hob
        · exact .inr (.inr ⟨k, hk1, hk2⟩)
    · have hc1 : c1 = c := by rw [← HE1.out]; unfold CN.takes1; rw [if_neg hst]
      have HC1 := Lib.hid hc1
      have q2 : (c.state == 2) = false := by simp; omega
      have q3 : (c.state == 3) = false := by simp; omega
      have q4 : (c.state == 4) = false := by simp; omega
      clear hc1 hst
      go_wp2_with fail
      go_meet
      refine HT.out _ ?_
      rw [HC1.out]
      exact HX.out.to
  case rest =>
    clear d7 hx hfx hix hb hnb hBb HE1
    obtain ⟨fp2, hx, hfx, hix0, hb⟩ := hcut
    have hix : ∀ i, i ∈ fp2 → i ∈ fp ∨ w.heap.size ≤ i := fun i hi => hbz ▸ hix0 i hi
    clear hix0 hbz
    have x2 : wc.cell? ⟨b, 2, none⟩ = some (.int .u32 s.seq) := hb.cell 2
    have x4 : wc.cell? ⟨b, 4, none⟩ = some (.int .i64 s.flags) := hb.cell 4
    have x7 : wc.cell? ⟨b, 7, none⟩ = some (.string ⟨s.data.toArray⟩) := hb.cell 7
    clear hb
    rcases hF : hasF s.flags 1 with _ | _
    · obtain ⟨-, q1⟩ := hasF_false hF
      have HFL := Lib.hid hF
      clear hF
      go_wp2_with fail
      refine bodyPost_ret (results_none rfl _ _ _) rfl ?_
      refine ⟨rfl, ?_⟩
      rw [HTK.out, HFL.out, if_neg (by simp)]
      exact CnTo.after hfx hix hx.to
    · obtain ⟨-, q1⟩ := hasF_true hF
      have HFL := Lib.hid hF
      clear hF
      have d17 := hx.c17
      obtain ⟨D, hD⟩ : ∃ D, decide (c1.eof = false ∧ (s.seq + s.data.length) % M32 = c1.rb.next) = D := ⟨_, rfl⟩
      have hx0 := hx
      obtain ⟨gs, gi, gd, gh, gc, rv, ov, hin, -, ho, -⟩ := hx
      have d16 : wc.cell? ⟨g, 16, none⟩ = some (.pointer (some ⟨gi, 0, none⟩)) := hin.blk.cell 16
      have hnx := fun k => rnext_in (wc.drewN k) ho.rb (hin.rb.drw (Drw.mk wc k))
      have HNX := Lib.hid hnx
      have HX := Lib.hid hx0
      clear hnx hin ho hx0
      go_upto_region 7 with fail
      go_cut [44] (fun u wy => u = .bool D ∧ CnTo w wy B fp g c1)
      case first =>
        rcases heo : c1.eof with _ | _
        · have d17' : wc.cell? ⟨g, 17, none⟩ = some (.bool false) := d17.trans (by rw [← heo])
          by_cases hq : (s.seq + (s.data.length : Int)) % 4294967296 = c1.rb.next
          · have q2 : ((s.seq + (s.data.length : Int)) % 4294967296 == c1.rb.next) = true := by simpa using hq
            have hDf : D = true := by rw [← hD, heo]; simpa [M32] using hq
            have HD := Lib.hid hDf
            clear hD hDf heo hq d17
            go_quiet ((go_at_call 68; exact quiet_left (HNX.out _)))
            go_wp2_with fail
            go_meet
            exact ⟨by rw [HD.out], CnTo.after hfx hix (HX.out.to.drw (Drw.mk _ _))⟩
          · have q2 : ((s.seq + (s.data.length : Int)) % 4294967296 == c1.rb.next) = false := by simpa using hq
            have hDf : D = false := by rw [← hD, heo]; simpa [M32] using hq
            have HD := Lib.hid hDf
            clear hD hDf heo hq d17
            go_quiet ((go_at_call 68; exact quiet_left (HNX.out _)))
            go_wp2_with fail
            go_meet
            exact ⟨by rw [HD.out], CnTo.after hfx hix (HX.out.to.drw (Drw.mk _ _))⟩
        · have d17' : wc.cell? ⟨g, 17, none⟩ = some (.bool true) := d17.trans (by rw [← heo])
          have hDf : D = false := by rw [← hD, heo]; simp
          have HD := Lib.hid hDf
          clear hD hDf heo d17
          go_quiet (fail)
          go_wp2_with fail
          go_meet
          exact ⟨by rw [HD.out], CnTo.after hfx hix (HX.out.to.drw (Drw.mk _ _))⟩
      case rest =>
        obtain ⟨rfl, hto⟩ := hcut
        have hc2 : c2 = if D = true then ((CN.turn { c1 with eof := true } 4 6).turn 3 5).turn 2 7 else c1 := by
          rw [← HE2.out]
          unfold CN.takes2
          rw [← hD]
          simp
        have HC2 := Lib.hid hc2
        clear hc2 hD x2 x4 x7 d16 d17 HNX HX hfx hix HE2
        obtain ⟨fp3, hx, hfx, hix⟩ := hto
        go_upto_if 44 with fail
        go_cut [] (fun wz => CnTo w wz B fp g c2)
        case first =>
          rcases D with _ | _
          · go_wp2_with fail
            go_meet
            rw [HC2.out]
            exact CnTo.after hfx hix hx.to
          · have f17 := hx.fz 17
            have d17 := hx.c17
            go_upto_region 9 with fail
            refine wp_world (fun wy => CnTo w wy B fp g { c1 with eof := true }) (CnTo.after hfx hix (CnTo.self (c' := { c1 with eof := true }) hx (fun _ _ _ _ hb => hb.set_to 17 _ rfl) ((Frm.refl _ _).setCell (.inl (by simp)) _) rfl rfl rfl rfl (fun h => h.same rfl rfl rfl rfl rfl rfl rfl rfl rfl))) ?_
            clear f17 d17 hx hfx hix
            rintro wy ⟨fp1, hx, hfx, hix⟩
            go_wp2_with fail
            refine (cturn_in _ 4 6 hx).mono ?_
            rintro e w1 ⟨rfl, fq1, hx1, hf1, hi1⟩
            go_wp2_with fail
            refine (cturn_in _ 3 5 hx1).mono ?_
            rintro e w2 ⟨rfl, fq2, hx2, hf2, hi2⟩
            go_wp2_with fail
            refine (cturn_in _ 2 7 hx2).mono ?_
            rintro e w3 ⟨rfl, hto3⟩
            go_wp2_with fail
            go_meet
            rw [HC2.out, if_pos trivial]
            exact CnTo.after hfx hix (CnTo.after hf1 hi1 (CnTo.after hf2 hi2 hto3))
        case rest =>
          clear hx hfx hix HC2
          obtain ⟨fp1, hx, hfx, hix⟩ := hcut
          have d7 := hx.c7
          have d6 := hx.c6
          have d28 := hx.c28
          have f28 := hx.fz 28
          by_cases h6 : c2.state = 6
          · have q6 : (c2.state == 6) = true := by simpa using h6
            have ht3 : c2.takes3 = { c2 with lingers := c2.o.linger } := by unfold CN.takes3; rw [if_pos h6]
            have HT3 := Lib.hid ht3
            have H6 := Lib.hid h6
            clear ht3 h6
            go_wp2_with fail
            go_end0
            refine ⟨rfl, ?_⟩
            rw [HTK.out, HFL.out, if_pos rfl, HT3.out]
            exact CnTo.after hfx hix (CnTo.self (c' := { c2 with lingers := c2.o.linger }) hx (fun _ _ _ _ hb => hb.set_to 28 _ rfl) ((Frm.refl _ _).setCell (.inl (by simp)) _) rfl rfl rfl rfl (fun h => h.lingered))
          · have q6 : (c2.state == 6) = false := by simpa using h6
            have ht3 : c2.takes3 = c2 := by unfold CN.takes3; rw [if_neg h6]
            have HT3 := Lib.hid ht3
            clear ht3 h6
            go_wp2_with fail
            go_end0
            refine ⟨rfl, ?_⟩
            rw [HTK.out, HFL.out, if_pos rfl, HT3.out]
            exact CnTo.after hfx hix hx.to

end Go.Proofs.Ytpmlojgngcllfaa
