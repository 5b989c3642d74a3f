/- The contracts of package conn: what its user calls: Write, Close, Read, Out, State, Eof, Reset. -/
import Derived.Test.YtpmlojgngcllfaaConnOut
namespace Go.Proofs.Ytpmlojgngcllfaa
open Go.RowKit Go

theorem cstate_in {B g : Nat} {fp : List Nat} {c : CN} (w : World) (h : CnIn w B fp g c) : Calls Try.prog 10 #[.pointer (some ⟨g, 0, none⟩)] w fun e w' => e = .returned (.int .i64 c.state) ∧ w = w' := by
  have d7 := h.c7
  go_enter Try.func10, Try.ntmps10
  go_wp2_with (go_at_call 31; refine (cnone_in _ h).mono ?_; rintro e w' ⟨rfl, rfl⟩)
  go_ret
  exact ⟨rfl, rfl⟩
theorem creset_in {B g : Nat} {fp : List Nat} {c : CN} (w : World) (h : CnIn w B fp g c) : Calls Try.prog 19 #[.pointer (some ⟨g, 0, none⟩)] w fun e w' => e = .returned (.bool c.reset) ∧ w = w' := by
  have d8 := h.c8
  go_enter Try.func19, Try.ntmps19
  go_wp2_with (go_at_call 31; refine (cnone_in _ h).mono ?_; rintro e w' ⟨rfl, rfl⟩)
  go_ret
  exact ⟨rfl, rfl⟩
def CN.over (c : CN) : Bool := c.eof && c.rb.ready.isEmpty
theorem ceof_in {B g : Nat} {fp : List Nat} {c : CN} (w : World) (h : CnIn w B fp g c) : Calls Try.prog 20 #[.pointer (some ⟨g, 0, none⟩)] w fun e w' => e = .returned (.bool c.over) ∧ w = w' := by
  have d17 := h.c17
  have h0 := h
  obtain ⟨gs, gi, gd, gh, gc, rv, ov, hin, -, ho, -⟩ := h
  have d16 : w.cell? ⟨g, 16, none⟩ = some (.pointer (some ⟨gi, 0, none⟩)) := hin.blk.cell 16
  have hrd := rready_in w ho.rb hin.rb
  have HRD := Lib.hid hrd
  clear hrd hin ho
  rcases he : c.eof with _ | _
  · have hov : c.over = false := by unfold CN.over; rw [he]; rfl
    have HOV := Lib.hid hov
    rw [he] at d17
    clear he hov
    go_enter Try.func20, Try.ntmps20
    go_wp2_with (go_at_call 31; refine (cnone_in _ h0).mono ?_; rintro e w' ⟨rfl, rfl⟩)
    go_ret
    exact ⟨ret_bool HOV.out.symm, rfl⟩
  · have hov : c.over = (((c.rb.ready.length : Nat) : Int) == 0) := by
      unfold CN.over
      rw [he]
      cases c.rb.ready with
      | nil => rfl
      | cons a l => simp only [List.isEmpty_cons, List.length_cons, Bool.and_false]; symm; rw [beq_eq_false_iff_ne]; omega
    have HOV := Lib.hid hov
    rw [he] at d17
    clear he hov
    go_enter Try.func20, Try.ntmps20
    go_wp2_with fail
    refine (cnone_in _ h0).mono ?_
    rintro e w' ⟨rfl, rfl⟩
    go_wp2_with fail
    refine HRD.out.mono ?_
    rintro e w' ⟨rfl, rfl⟩
    generalize hb : (((c.rb.ready.length : Nat) : Int) == 0) = b at *
    go_wp2_with fail
    go_ret
    exact ⟨ret_bool HOV.out.symm, rfl⟩

/-- What Out gives. -/
def CnOut (w w' : World) (B : Nat) (fp : List Nat) (g : Nat) (c : CN) (v : Value) : Prop :=
  ∃ fp', CnIn w' B fp' g c.drain ∧ Frm fp w w' ∧ (∀ i, i ∈ fp' → i ∈ fp ∨ w.heap.size ≤ i) ∧ w'.ownsRow B 42 8 v c.out.length (segs c.out) ∧ ∀ k, v.ownBlock = some k → ¬ k ∈ fp'
def OutPost (w : World) (B : Nat) (fp : List Nat) (g : Nat) (c : CN) (e : Ending) (w' : World) : Prop := ∃ v, e = .returned v ∧ CnOut w w' B fp g c v
theorem cout_in {B g : Nat} {fp : List Nat} {c : CN} (w : World) (h : CnIn w B fp g c) : Calls Try.prog 15 #[.pointer (some ⟨g, 0, none⟩)] w (OutPost w B fp g c) := by
  have h0 := h
  obtain ⟨gs, gi, gd, gh, gc, rv, ov, hin, hfp, ho, hB⟩ := h
  have d30 : w.cell? ⟨g, 30, none⟩ = some ov := hin.blk.cell 30
  have f30 := hin.blk.frozen 30
  obtain ⟨A, cap, hov⟩ := own_form hin.own
  subst hov
  have hend : OutPost w B fp g c (.returned (.slice A c.out.length cap)) (w.setCell ⟨g, 30, none⟩ (.slice none 0 0)) := by
    have hf : Frm [g] w (w.setCell ⟨g, 30, none⟩ (.slice none 0 0)) := (Frm.refl _ _).setCell (.inl (by simp)) _
    have n1 : gs ≠ g := hin.sb.ne_ hin.blk (by decide)
    have n2 : gi ≠ g := hin.rb.blk.ne_ hin.blk (by decide)
    have n3 : gd ≠ g := hin.rb.dat.ne_ hin.blk (by decide)
    have n4 : gh ≠ g := hin.rb.has.ne_ hin.blk (by decide)
    have n5 : gc ≠ g := hin.clk.ne_ hin.blk (by decide)
    have n6 := own_ne hin.rb.own hin.blk (by decide)
    have n7 := own_ne hin.own hin.blk (by decide)
    have hm : ∀ k, k ∈ [g] → k = g := fun k hk => by simpa using hk
    have e2 := own_ne hin.own hin.sb (by decide)
    have e3 := own_ne hin.own hin.rb.blk (by decide)
    have e4 := own_ne hin.own hin.rb.dat (by decide)
    have e5 := own_ne hin.own hin.rb.has (by decide)
    have e6 := own_ne hin.own hin.clk (by decide)
    refine ⟨_, rfl, [g, gs, gi, gd, gh, gc] ++ rv.ownBlock.toList ++ (Value.slice none 0 0).ownBlock.toList, ⟨gs, gi, gd, gh, gc, rv, .slice none 0 0, ⟨hin.blk.set_to 30 _ rfl, hin.sb.frm hf (by simpa using n1), ?_, hin.clk.frm hf (by simpa using n5), ⟨rfl, .inl ⟨rfl, rfl⟩⟩⟩, rfl, ⟨ho.sb, ho.rb, ho.clk, ho.opt, ho.win, ho.mss, ho.tr, ho.left, ho.lin⟩, Nat.le_trans hB hf.size⟩, hf.mono fun i hi => .inl ?_, fun i hi => .inl ?_, own_frm hin.own hf (fun k hk hk2 => n7 (by rw [hk, hm k hk2])), fun k hk hm2 => ?_⟩
    · exact hin.rb.frm hf (by simpa using n2) (by simpa using n3) (by simpa using n4) (fun k hk hk2 => n6 (by rw [hk, hm k hk2]))
    · rw [hm i hi, hfp]
      simp
    · rw [hfp]
      simp only [Value.ownBlock, Option.toList_none, List.append_nil] at hi
      exact List.mem_append.2 (.inl hi)
    · simp only [Value.ownBlock, Option.toList_none, List.append_nil, List.mem_append, List.mem_cons, List.not_mem_nil, or_false, Option.mem_toList] at hm2
      rcases hm2 with (rfl | rfl | rfl | rfl | rfl | rfl) | hm2
      · exact n7 hk
      · exact e2 hk
      · exact e3 hk
      · exact e4 hk
      · exact e5 hk
      · exact e6 hk
      · exact own_own_ne hin.own hin.rb.own (by decide) hk hm2
  have HEND := Lib.hid hend
  clear hend hin hfp ho hB
  go_enter Try.func15, Try.ntmps15
  go_wp2_with (go_at_call 31; refine (cnone_in _ h0).mono ?_; rintro e w' ⟨rfl, rfl⟩)
  go_ret
  exact HEND.out

theorem CN.writes_cases {c : CN} : (c.writes = true → (c.closed = false ∧ ((c.state == 1) = true ∨ ((c.state == 1) = false ∧ (c.state == 2) = true) ∨ ((c.state == 1) = false ∧ (c.state == 2) = false ∧ (c.state == 7) = true)))) ∧
    (c.writes = false → (c.closed = true ∨ (c.closed = false ∧ (c.state == 1) = false ∧ (c.state == 2) = false ∧ (c.state == 7) = false))) := by
  unfold CN.writes
  cases c.closed <;> cases (c.state == 1) <;> cases (c.state == 2) <;> cases (c.state == 7) <;> simp
theorem cwrites_in {B g : Nat} {fp : List Nat} {c : CN} (w : World) (h : CnIn w B fp g c) : Calls Try.prog 34 #[.pointer (some ⟨g, 0, none⟩)] w fun e w' => e = .returned (.bool c.writes) ∧ w = w' := by
  have d14 := h.c14
  have d7 := h.c7
  rcases hw : c.writes with _ | _
  · rcases CN.writes_cases.2 hw with hc | ⟨hc, q1, q2, q7⟩
    all_goals
      rw [hc] at d14
      clear hw hc
      go_enter Try.func34, Try.ntmps34
      go_wp2_with (go_at_call 31; refine (cnone_in _ h).mono ?_; rintro e w' ⟨rfl, rfl⟩)
      go_ret
      exact ⟨rfl, rfl⟩
  · obtain ⟨hc, hq⟩ := CN.writes_cases.1 hw
    rw [hc] at d14
    clear hw hc
    rcases hq with q1 | ⟨q1, q2⟩ | ⟨q1, q2, q7⟩
    all_goals
      go_enter Try.func34, Try.ntmps34
      go_wp2_with (go_at_call 31; refine (cnone_in _ h).mono ?_; rintro e w' ⟨rfl, rfl⟩)
      go_ret
      exact ⟨rfl, rfl⟩

theorem cwrite_in {B g : Nat} {fp : List Nat} {c : CN} (w : World) (l : List UInt8) (hl : l.length ≤ maxLen) (hn : c.out.length ≤ 900000) (h : CnIn w B fp g c) :
    Calls Try.prog 12 #[.pointer (some ⟨g, 0, none⟩), .string ⟨l.toArray⟩] w fun e w' => e = .returned (.int .i64 (c.wrote l : Nat)) ∧ CnTo w w' B fp g (c.write l) := by
  unfold CN.wrote CN.write
  have hwr := cwrites_in w h
  rcases hw : c.writes with _ | _
  · rw [hw] at hwr
    rw [if_neg (by simp), if_neg (by simp)]
    have HW := Lib.hid hwr
    clear hwr hw
    go_enter Try.func12, Try.ntmps12
    go_wp2_with (go_at_call 34; refine HW.out.mono ?_; rintro e w' ⟨rfl, rfl⟩)
    go_ret
    exact ⟨rfl, h.to⟩
  · rw [hw] at hwr
    rw [if_pos rfl, if_pos rfl]
    have HW := Lib.hid hwr
    have h0 := h
    obtain ⟨gs, gi, gd, gh, gc, rv, ov, hin, hfp, ho, hB⟩ := h
    have d10 : w.cell? ⟨g, 10, none⟩ = some (.pointer (some ⟨gs, 0, none⟩)) := hin.blk.cell 10
    have hsw := swrite_blk gs c.sb l w ho.sb hl hin.sb
    have hst := fun wz (hb : Blk wz gs 78 (c.sb.write l).cells) (hf : Frm [gs] w wz) => CnTo.strm h0 hin hfp hb hf (ho.sb.write l)
    have HSW := Lib.hid hsw
    have HST := Lib.hid hst
    clear hwr hw hsw hst hin hfp ho hB
    go_enter Try.func12, Try.ntmps12
    go_wp2_with fail
    refine HW.out.mono ?_
    rintro e w' ⟨rfl, rfl⟩
    go_wp2_with fail
    refine HSW.out.mono ?_
    rintro e w1 ⟨rfl, hb, hf⟩
    obtain ⟨fp1, hx, hfx, hix⟩ := HST.out _ hb hf
    clear hb hf
    go_wp2_with fail
    refine (cflush_in (c := { c with sb := c.sb.write l }) _ hn hx).mono ?_
    rintro e w2 ⟨rfl, hto⟩
    go_wp2_with fail
    go_ret
    exact ⟨rfl, CnTo.after hfx hix hto⟩

theorem cclose_in {B g : Nat} {fp : List Nat} {c : CN} (w : World) (hn : c.out.length ≤ 900000) (h : CnIn w B fp g c) :
    Calls Try.prog 14 #[.pointer (some ⟨g, 0, none⟩)] w fun e w' => e = .returned (.tuple #[]) ∧ CnTo w w' B fp g c.close := by
  unfold CN.close
  have hwr := cwrites_in w h
  rcases hw : c.writes with _ | _
  · rw [hw] at hwr
    rw [if_neg (by simp)]
    have HW := Lib.hid hwr
    clear hwr hw
    go_enter Try.func14, Try.ntmps14
    go_wp2_with (go_at_call 34; refine HW.out.mono ?_; rintro e w' ⟨rfl, rfl⟩)
    refine bodyPost_ret (results_none rfl _ _ _) rfl ?_
    exact ⟨rfl, h.to⟩
  · rw [hw] at hwr
    rw [if_pos rfl]
    have HW := Lib.hid hwr
    have f14 := h.fz 14
    have d14 := h.c14
    have hn3 : ((CN.turn { c with closed := true } 2 3).turn 7 8).out.length ≤ 900000 := by rw [CN.turn_out, CN.turn_out]; exact hn
    have hto := CnTo.self (w' := w.setCell ⟨g, 14, none⟩ (.bool true)) (c' := { c with closed := true }) h (fun _ _ _ _ hb => hb.set_to 14 _ rfl) ((Frm.refl _ _).setCell (.inl (by simp)) _) rfl rfl rfl rfl (fun h => h.same rfl rfl rfl rfl rfl rfl rfl rfl rfl)
    have HTO := Lib.hid hto
    clear hwr hw hto
    go_enter Try.func14, Try.ntmps14
    go_wp2_with fail
    refine HW.out.mono ?_
    rintro e w' ⟨rfl, rfl⟩
    go_upto_region 2 with fail
    refine wp_world (fun wx => CnTo w wx B fp g { c with closed := true }) HTO.out ?_
    clear HTO f14 d14 HW h
    rintro wx ⟨fp1, hx, hfx, hix⟩
    go_wp2_with fail
    refine (cturn_in _ 2 3 hx).mono ?_
    rintro e w1 ⟨rfl, fq1, hx1, hf1, hi1⟩
    go_wp2_with fail
    refine (cturn_in _ 7 8 hx1).mono ?_
    rintro e w2 ⟨rfl, fq2, hx2, hf2, hi2⟩
    go_wp2_with fail
    refine (cflush_in _ hn3 hx2).mono ?_
    rintro e w3 ⟨rfl, hto⟩
    go_wp2_with fail
    go_end0
    exact ⟨rfl, CnTo.after hfx hix (CnTo.after hf1 hi1 (CnTo.after hf2 hi2 hto))⟩

theorem CN.reads_cases {c : CN} : (c.reads = true → ((c.state == 2) = true ∨ ((c.state == 2) = false ∧ (c.state == 3) = true) ∨ ((c.state == 2) = false ∧ (c.state == 3) = false ∧ (c.state == 4) = true))) ∧
    (c.reads = false → ((c.state == 2) = false ∧ (c.state == 3) = false ∧ (c.state == 4) = false)) := by
  unfold CN.reads
  cases (c.state == 2) <;> cases (c.state == 3) <;> cases (c.state == 4) <;> simp

set_option maxRecDepth 100000 in
set_option maxHeartbeats 2000000 in
theorem cread_in {B g : Nat} {fp : List Nat} {c : CN} (w : World) (n : Int) (hn : c.out.length ≤ 900000) (h : CnIn w B fp g c) :
    Calls Try.prog 13 #[.pointer (some ⟨g, 0, none⟩), .int .i64 n] w fun e w' => e = .returned (.string ⟨(c.got n).toArray⟩) ∧ CnTo w w' B fp g (c.read n) := by
  have h0 := h
  obtain ⟨gs, gi, gd, gh, gc, rv, ov, hin, hfp, ho, hB⟩ := h
  have d16 : w.cell? ⟨g, 16, none⟩ = some (.pointer (some ⟨gi, 0, none⟩)) := hin.blk.cell 16
  have hrd := rread_in n w ho.rb hB hin.rb
  have hst := fun (wy : World) (rv' : Value) (hr : RbIn wy B gi gd gh rv' (c.rb.read n)) (hf : Frm [gi] w wy) (hob : rv'.ownBlock = none ∨ rv'.ownBlock = some w.heap.size) =>
    CnTo.rbuf h0 hin hfp hr (hf.mono fun i hi => .inl (by rw [show i = gi from by simpa using hi]; simp)) (hob.elim (fun e => .inr (.inl e)) (fun e => .inr (.inr ⟨_, e, Nat.le_refl _⟩))) (ho.rb.read n)
  have HRD := Lib.hid hrd
  have HST := Lib.hid hst
  obtain ⟨R, hR⟩ : ∃ R, c.read n = R := ⟨_, rfl⟩
  rw [hR]
  have HR := Lib.hid hR
  clear hrd hst hin hfp ho hB hR
  go_enter Try.func13, Try.ntmps13
  go_wp2_with fail
  refine (cnone_in _ h0).mono ?_
  rintro e w' ⟨rfl, rfl⟩
  go_wp2_with fail
  refine HRD.out.mono ?_
  rintro e w1 ⟨rfl, rv', hr, hf, hob⟩
  obtain ⟨fp1, hx, hfx, hix⟩ := HST.out _ rv' hr hf hob
  clear hr hf hob HST HRD d16 h0
  have d7 : w1.cell? ⟨g, 7, none⟩ = some (.int .i64 c.state) := hx.c7
  have d29 : w1.cell? ⟨g, 29, none⟩ = some (.int .i64 c.told) := hx.c29
  have hno : (c.read1 n).out.length ≤ 1000000 := by show c.out.length ≤ 1000000; omega
  have hx2 : CnIn w1 B fp1 g (c.read1 n) := hx
  obtain ⟨gs, gi, gd, gh, gc, rv, ov, hin, -, ho, -⟩ := hx
  have d16 : w1.cell? ⟨g, 16, none⟩ = some (.pointer (some ⟨gi, 0, none⟩)) := hin.blk.cell 16
  have hwn : Calls Try.prog 38 #[.pointer (some ⟨gi, 0, none⟩)] w1 fun e w' => e = .returned (.int .i64 ((c.read1 n).rb.win : Nat)) ∧ Drw w1 w' := rwindow_in w1 ho.rb hin.rb
  have HWN := Lib.hid hwn
  clear hwn hin ho
  rcases hrs : c.reads with _ | _
  · obtain ⟨q2, q3, q4⟩ := CN.reads_cases.2 hrs
    have hR2 : R = c.read1 n := by rw [← HR.out]; unfold CN.read; rw [if_neg (by rw [hrs]; simp)]
    have HR2 := Lib.hid hR2
    clear hrs hR2
    go_wp2_with fail
    go_ret
    exact ⟨rfl, by rw [HR2.out]; exact CnTo.after hfx hix hx2.to⟩
  · have hq := CN.reads_cases.1 hrs
    rcases Int.lt_or_le c.told 536 with ht | ht
    · have q5 : decide (c.told < 536) = true := by simpa using ht
      by_cases hw : 536 ≤ (c.read1 n).rb.win
      · have hw2 : (536 : Int) ≤ (((c.read1 n).rb.win : Nat) : Int) := by omega
        have q6 : decide ((536 : Int) ≤ (((c.read1 n).rb.win : Nat) : Int)) = true := by simpa using hw2
        have hR2 : R = (c.read1 n).tell := by rw [← HR.out]; unfold CN.read; rw [if_pos ⟨hrs, ht, hw⟩]
        have HR2 := Lib.hid hR2
        clear hrs ht hw hR2
        rcases hq with q2 | ⟨q2, q3⟩ | ⟨q2, q3, q4⟩
        all_goals
          go_wp2_with fail
          refine HWN.out.mono ?_
          rintro e w2 ⟨rfl, hd⟩
          go_wp2_with fail
          refine (ctell_in _ hno (hx2.drw hd)).mono ?_
          rintro e w3 ⟨rfl, hto⟩
          go_wp2_with fail
          go_ret
          exact ⟨rfl, by rw [HR2.out]; exact CnTo.after hfx hix (CnTo.after (hd.next (Frm.refl _ _)) (fun _ h => .inl h) hto)⟩
      · have q6 : decide ((536 : Int) ≤ (((c.read1 n).rb.win : Nat) : Int)) = false := by simp; omega
        have hR2 : R = c.read1 n := by rw [← HR.out]; unfold CN.read; rw [if_neg (by simp [hw])]
        have HR2 := Lib.hid hR2
        clear hrs ht hw hR2
        rcases hq with q2 | ⟨q2, q3⟩ | ⟨q2, q3, q4⟩
        all_goals
          go_wp2_with fail
          refine HWN.out.mono ?_
          rintro e w2 ⟨rfl, hd⟩
          go_wp2_with fail
          go_ret
          exact ⟨rfl, by rw [HR2.out]; exact CnTo.after hfx hix (hx2.to.drw hd)⟩
    · have q5 : decide (c.told < 536) = false := by simp; omega
      have hR2 : R = c.read1 n := by rw [← HR.out]; unfold CN.read; rw [if_neg (by omega)]
      have HR2 := Lib.hid hR2
      clear hrs ht hR2
      rcases hq with q2 | ⟨q2, q3⟩ | ⟨q2, q3, q4⟩
      all_goals
        go_wp2_with fail
        go_ret
        exact ⟨rfl, by rw [HR2.out]; exact CnTo.after hfx hix hx2.to⟩

end Go.Proofs.Ytpmlojgngcllfaa
