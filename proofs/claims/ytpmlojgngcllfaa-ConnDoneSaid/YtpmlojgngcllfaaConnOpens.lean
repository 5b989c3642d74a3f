/- The contracts of package conn: opens. -/
import Derived.Test.YtpmlojgngcllfaaConnTurn
namespace Go.Proofs.Ytpmlojgngcllfaa
open Go.RowKit Go

theorem CN.Ok.opens {c : CN} (h : c.Ok) {s : Sg} (hs : s.Ok) : (c.opens s).Ok := by
  unfold CN.opens
  split
  · refine ⟨h.sb, h.rb, h.clk, h.opt, ⟨hs.w0, hs.w1⟩, h.mss, h.tr, ?_, h.lin⟩
    have := h.left
    show 0 ≤ (if _ then _ else _ : Int) ∧ (if _ then _ else _ : Int) ≤ 1048576
    split <;> omega
  · exact h

set_option maxRecDepth 100000 in
set_option maxHeartbeats 2000000 in
theorem copens_in {B g : Nat} {fp : List Nat} {c : CN} (w : World) (s : Sg) (hs : s.Ok) (h : CnIn w B fp g c) :
    Calls Try.prog 44 #[.pointer (some ⟨g, 0, none⟩), .agg #[.int .i64 s.frm, .int .i64 s.dst, .int .u32 s.seq, .int .u32 s.ack, .int .i64 s.flags, .int .i64 s.window, .int .i64 s.mss, .string ⟨s.data.toArray⟩]] w fun e w' => e = .returned (.tuple #[]) ∧ CnTo w w' B fp g (c.opens s) := by
  have hbox := boxed_new s h
  have hws := hs.w0
  have hs1 := hs.w1
  have hcw := h.ok.win
  have HS := Lib.hid hs
  clear hs h
  rcases hA : lessB s.ack c.una with _ | _
  · rcases hB : lessB c.seq s.seq with _ | _
    · by_cases hE : c.seq = s.seq
      · rcases hC : lessB s.ack c.ack with _ | _
        · have hn : c.news s = true := by unfold CN.news; rw [hA, hB, hC]; simp [hE]
          have bE : (c.seq != s.seq) = false := by simpa using hE
          have hlA := fun (wx : World) k => less_any s.ack c.una (wx.drewN k)
          rw [hA] at hlA
          have HA := Lib.hid hA
          have HLA := Lib.hid hlA
          clear hlA hA
          have hlB := fun (wx : World) k => less_any c.seq s.seq (wx.drewN k)
          rw [hB] at hlB
          have HB := Lib.hid hB
          have HLB := Lib.hid hlB
          clear hlB hB
          have hlC := fun (wx : World) k => less_any s.ack c.ack (wx.drewN k)
          rw [hC] at hlC
          have HC := Lib.hid hC
          have HLC := Lib.hid hlC
          clear hlC hC
          have HN := Lib.hid hn
          have HBOX := Lib.hid hbox
          have HWS := Lib.hid (And.intro hws (And.intro hs1 hcw))
          clear hn hbox hws hs1 hcw
          try clear hE
          go_enter Try.func44, Try.ntmps44
          go_upto_region 1 with fail
          refine wp_world (fun wx => Boxed w wx B fp g w.heap.size c s) HBOX.out ?_
          rintro wx ⟨fp1, hx, hfx, hix, hb, hnb, hBb⟩
          generalize hbz : w.heap.size = b at *
          have x2 : wx.cell? ⟨b, 2, none⟩ = some (.int .u32 s.seq) := hb.cell 2
          have x3 : wx.cell? ⟨b, 3, none⟩ = some (.int .u32 s.ack) := hb.cell 3
          have d11 := hx.c11
          have d20 := hx.c20
          have d21 := hx.c21
          have HX := Lib.hid hx
          have HB := Lib.hid hb
          have HFX := Lib.hid hfx
          have HIX := Lib.hid hix
          have HNB := Lib.hid hnb
          have HBB := Lib.hid hBb
          have HBZ := Lib.hid hbz
          clear hx hb hfx hix hnb hBb hbz
          go_quiet ((go_at_call 63; first | (with_reducible exact quiet_left (HLA.out _ _)) | (with_reducible exact quiet_left (HLB.out _ _)) | (with_reducible exact quiet_left (HLC.out _ _))))
          go_upto_region 2 with fail
          clear x2 x3 d11 d20 d21
          obtain ⟨hws, hs1, hcw⟩ := HWS.out
          have x2 : wx.cell? ⟨b, 2, none⟩ = some (.int .u32 s.seq) := HB.out.cell 2
          have x3 : wx.cell? ⟨b, 3, none⟩ = some (.int .u32 s.ack) := HB.out.cell 3
          have x5 : wx.cell? ⟨b, 5, none⟩ = some (.int .i64 s.window) := HB.out.cell 5
          have d11 := HX.out.c11
          have d12 := HX.out.c12
          have d18 := HX.out.c18
          have d23 := HX.out.c23
          have d20 := HX.out.c20
          have d21 := HX.out.c21
          have f18 := HX.out.fz 18
          have f20 := HX.out.fz 20
          have f21 := HX.out.fz 21
          have f23 := HX.out.fz 23
          have hlt : b ≠ g := fun e => HNB.out (e ▸ HX.out.mem)
          have HNE := Lib.hid hlt
          clear hlt
          by_cases q1 : c.window = 0
          · have b1 : (c.window == 0) = true := by simpa using q1
            by_cases q2 : 0 < s.window
            · have b2 : decide (0 < s.window) = true := by simpa using q2
              by_cases q3 : c.nxt = c.una
              · have b3 : (c.nxt == c.una) = true := by simpa using q3
                have HQ : Hid ((if c.window = 0 ∧ 0 < s.window ∧ c.nxt = c.una then 0 else c.left) = 0) := Lib.hid (if_pos ⟨q1, q2, q3⟩)
                clear q1 q3
                go_quiet (fail)
                have HR : Hid (c.opens s = { c with left := 0, window := s.window, seq := s.seq, ack := s.ack }) := Lib.hid (by unfold CN.opens; rw [HN.out, if_pos rfl, HQ.out])
                go_wp2_with fail
                go_region
                all_goals go_end0
                all_goals refine ⟨rfl, ?_⟩
                all_goals rw [HR.out]
                all_goals exact CnTo.after HFX.out (fun i hi => HBZ.out ▸ HIX.out i hi) (CnTo.self (c' := { c with left := 0, window := s.window, seq := s.seq, ack := s.ack }) HX.out (fun _ _ _ _ hb => ((((((hb.drewN _).set_ 23 _).set_ 18 _).set_ 20 _).set_to 21 _ rfl).drew)) (((((((Frm.refl _ _).drewN _).setCell (.inl (by simp)) _).setCell (.inl (by simp)) _).setCell (.inl (by simp)) _).setCell (.inl (by simp)) _).drew) rfl rfl rfl rfl (fun h => HR.out ▸ h.opens HS.out))
              · have b3 : (c.nxt == c.una) = false := by simpa using q3
                have HQ : Hid ((if c.window = 0 ∧ 0 < s.window ∧ c.nxt = c.una then 0 else c.left) = c.left) := Lib.hid (if_neg (by simp [q3]))
                clear q1 q3
                go_quiet (fail)
                have HR : Hid (c.opens s = { c with left := c.left, window := s.window, seq := s.seq, ack := s.ack }) := Lib.hid (by unfold CN.opens; rw [HN.out, if_pos rfl, HQ.out])
                go_wp2_with fail
                go_region
                all_goals go_end0
                all_goals refine ⟨rfl, ?_⟩
                all_goals rw [HR.out]
                all_goals exact CnTo.after HFX.out (fun i hi => HBZ.out ▸ HIX.out i hi) (CnTo.self (c' := { c with left := c.left, window := s.window, seq := s.seq, ack := s.ack }) HX.out (fun _ _ _ _ hb => (((hb.drewN _).set_ 18 _).set_ 20 _).set_to 21 _ rfl) (((((Frm.refl _ _).drewN _).setCell (.inl (by simp)) _).setCell (.inl (by simp)) _).setCell (.inl (by simp)) _) rfl rfl rfl rfl (fun h => HR.out ▸ h.opens HS.out))
            · have b2 : decide (0 < s.window) = false := by simpa using q2
              have HQ : Hid ((if c.window = 0 ∧ 0 < s.window ∧ c.nxt = c.una then 0 else c.left) = c.left) := Lib.hid (if_neg (by simp [q2]))
              clear q1
              go_quiet (fail)
              have HR : Hid (c.opens s = { c with left := c.left, window := s.window, seq := s.seq, ack := s.ack }) := Lib.hid (by unfold CN.opens; rw [HN.out, if_pos rfl, HQ.out])
              go_wp2_with fail
              go_region
              all_goals go_end0
              all_goals refine ⟨rfl, ?_⟩
              all_goals rw [HR.out]
              all_goals exact CnTo.after HFX.out (fun i hi => HBZ.out ▸ HIX.out i hi) (CnTo.self (c' := { c with left := c.left, window := s.window, seq := s.seq, ack := s.ack }) HX.out (fun _ _ _ _ hb => (((hb.drewN _).set_ 18 _).set_ 20 _).set_to 21 _ rfl) (((((Frm.refl _ _).drewN _).setCell (.inl (by simp)) _).setCell (.inl (by simp)) _).setCell (.inl (by simp)) _) rfl rfl rfl rfl (fun h => HR.out ▸ h.opens HS.out))
          · have b1 : (c.window == 0) = false := by simpa using q1
            have HQ : Hid ((if c.window = 0 ∧ 0 < s.window ∧ c.nxt = c.una then 0 else c.left) = c.left) := Lib.hid (if_neg (by simp [q1]))
            clear q1
            go_quiet (fail)
            have HR : Hid (c.opens s = { c with left := c.left, window := s.window, seq := s.seq, ack := s.ack }) := Lib.hid (by unfold CN.opens; rw [HN.out, if_pos rfl, HQ.out])
            go_wp2_with fail
            go_region
            all_goals go_end0
            all_goals refine ⟨rfl, ?_⟩
            all_goals rw [HR.out]
            all_goals exact CnTo.after HFX.out (fun i hi => HBZ.out ▸ HIX.out i hi) (CnTo.self (c' := { c with left := c.left, window := s.window, seq := s.seq, ack := s.ack }) HX.out (fun _ _ _ _ hb => (((hb.drewN _).set_ 18 _).set_ 20 _).set_to 21 _ rfl) (((((Frm.refl _ _).drewN _).setCell (.inl (by simp)) _).setCell (.inl (by simp)) _).setCell (.inl (by simp)) _) rfl rfl rfl rfl (fun h => HR.out ▸ h.opens HS.out))
        · have hn : c.news s = false := by unfold CN.news; rw [hA, hB, hC]; simp
          have bE : (c.seq != s.seq) = false := by simpa using hE
          have hlA := fun (wx : World) k => less_any s.ack c.una (wx.drewN k)
          rw [hA] at hlA
          have HA := Lib.hid hA
          have HLA := Lib.hid hlA
          clear hlA hA
          have hlB := fun (wx : World) k => less_any c.seq s.seq (wx.drewN k)
          rw [hB] at hlB
          have HB := Lib.hid hB
          have HLB := Lib.hid hlB
          clear hlB hB
          have hlC := fun (wx : World) k => less_any s.ack c.ack (wx.drewN k)
          rw [hC] at hlC
          have HC := Lib.hid hC
          have HLC := Lib.hid hlC
          clear hlC hC
          have HN := Lib.hid hn
          have HBOX := Lib.hid hbox
          have HWS := Lib.hid (And.intro hws (And.intro hs1 hcw))
          clear hn hbox hws hs1 hcw
          try clear hE
          go_enter Try.func44, Try.ntmps44
          go_upto_region 1 with fail
          refine wp_world (fun wx => Boxed w wx B fp g w.heap.size c s) HBOX.out ?_
          rintro wx ⟨fp1, hx, hfx, hix, hb, hnb, hBb⟩
          generalize hbz : w.heap.size = b at *
          have x2 : wx.cell? ⟨b, 2, none⟩ = some (.int .u32 s.seq) := hb.cell 2
          have x3 : wx.cell? ⟨b, 3, none⟩ = some (.int .u32 s.ack) := hb.cell 3
          have d11 := hx.c11
          have d20 := hx.c20
          have d21 := hx.c21
          have HX := Lib.hid hx
          have HB := Lib.hid hb
          have HFX := Lib.hid hfx
          have HIX := Lib.hid hix
          have HNB := Lib.hid hnb
          have HBB := Lib.hid hBb
          have HBZ := Lib.hid hbz
          clear hx hb hfx hix hnb hBb hbz
          go_quiet ((go_at_call 63; first | (with_reducible exact quiet_left (HLA.out _ _)) | (with_reducible exact quiet_left (HLB.out _ _)) | (with_reducible exact quiet_left (HLC.out _ _))))
          go_wp2_with fail
          refine bodyPost_ret (results_none rfl _ _ _) rfl ?_
          refine ⟨rfl, ?_⟩
          rw [show c.opens s = c from by unfold CN.opens; rw [HN.out]; rfl]
          exact CnTo.after HFX.out (fun i hi => HBZ.out ▸ HIX.out i hi) (HX.out.to.drw (Drw.mk _ _))
      · have hn : c.news s = false := by unfold CN.news; rw [hA, hB]; simp [hE]
        have bE : (c.seq != s.seq) = true := by simpa using hE
        have hlA := fun (wx : World) k => less_any s.ack c.una (wx.drewN k)
        rw [hA] at hlA
        have HA := Lib.hid hA
        have HLA := Lib.hid hlA
        clear hlA hA
        have hlB := fun (wx : World) k => less_any c.seq s.seq (wx.drewN k)
        rw [hB] at hlB
        have HB := Lib.hid hB
        have HLB := Lib.hid hlB
        clear hlB hB
        have HN := Lib.hid hn
        have HBOX := Lib.hid hbox
        have HWS := Lib.hid (And.intro hws (And.intro hs1 hcw))
        clear hn hbox hws hs1 hcw
        try clear hE
        go_enter Try.func44, Try.ntmps44
        go_upto_region 1 with fail
        refine wp_world (fun wx => Boxed w wx B fp g w.heap.size c s) HBOX.out ?_
        rintro wx ⟨fp1, hx, hfx, hix, hb, hnb, hBb⟩
        generalize hbz : w.heap.size = b at *
        have x2 : wx.cell? ⟨b, 2, none⟩ = some (.int .u32 s.seq) := hb.cell 2
        have x3 : wx.cell? ⟨b, 3, none⟩ = some (.int .u32 s.ack) := hb.cell 3
        have d11 := hx.c11
        have d20 := hx.c20
        have d21 := hx.c21
        have HX := Lib.hid hx
        have HB := Lib.hid hb
        have HFX := Lib.hid hfx
        have HIX := Lib.hid hix
        have HNB := Lib.hid hnb
        have HBB := Lib.hid hBb
        have HBZ := Lib.hid hbz
        clear hx hb hfx hix hnb hBb hbz
        go_quiet ((go_at_call 63; first | (with_reducible exact quiet_left (HLA.out _ _)) | (with_reducible exact quiet_left (HLB.out _ _))))
        go_wp2_with fail
        refine bodyPost_ret (results_none rfl _ _ _) rfl ?_
        refine ⟨rfl, ?_⟩
        rw [show c.opens s = c from by unfold CN.opens; rw [HN.out]; rfl]
        exact CnTo.after HFX.out (fun i hi => HBZ.out ▸ HIX.out i hi) (HX.out.to.drw (Drw.mk _ _))
    · have hn : c.news s = true := by unfold CN.news; rw [hA, hB]; rfl
      have hlA := fun (wx : World) k => less_any s.ack c.una (wx.drewN k)
      rw [hA] at hlA
      have HA := Lib.hid hA
      have HLA := Lib.hid hlA
      clear hlA hA
      have hlB := fun (wx : World) k => less_any c.seq s.seq (wx.drewN k)
      rw [hB] at hlB
      have HB := Lib.hid hB
      have HLB := Lib.hid hlB
      clear hlB hB
      have HN := Lib.hid hn
      have HBOX := Lib.hid hbox
      have HWS := Lib.hid (And.intro hws (And.intro hs1 hcw))
      clear hn hbox hws hs1 hcw
      try clear hE
      go_enter Try.func44, Try.ntmps44
      go_upto_region 1 with fail
      refine wp_world (fun wx => Boxed w wx B fp g w.heap.size c s) HBOX.out ?_
      rintro wx ⟨fp1, hx, hfx, hix, hb, hnb, hBb⟩
      generalize hbz : w.heap.size = b at *
      have x2 : wx.cell? ⟨b, 2, none⟩ = some (.int .u32 s.seq) := hb.cell 2
      have x3 : wx.cell? ⟨b, 3, none⟩ = some (.int .u32 s.ack) := hb.cell 3
      have d11 := hx.c11
      have d20 := hx.c20
      have d21 := hx.c21
      have HX := Lib.hid hx
      have HB := Lib.hid hb
      have HFX := Lib.hid hfx
      have HIX := Lib.hid hix
      have HNB := Lib.hid hnb
      have HBB := Lib.hid hBb
      have HBZ := Lib.hid hbz
      clear hx hb hfx hix hnb hBb hbz
      go_quiet ((go_at_call 63; first | (with_reducible exact quiet_left (HLA.out _ _)) | (with_reducible exact quiet_left (HLB.out _ _))))
      go_upto_region 2 with fail
      clear x2 x3 d11 d20 d21
      obtain ⟨hws, hs1, hcw⟩ := HWS.out
      have x2 : wx.cell? ⟨b, 2, none⟩ = some (.int .u32 s.seq) := HB.out.cell 2
      have x3 : wx.cell? ⟨b, 3, none⟩ = some (.int .u32 s.ack) := HB.out.cell 3
      have x5 : wx.cell? ⟨b, 5, none⟩ = some (.int .i64 s.window) := HB.out.cell 5
      have d11 := HX.out.c11
      have d12 := HX.out.c12
      have d18 := HX.out.c18
      have d23 := HX.out.c23
      have d20 := HX.out.c20
      have d21 := HX.out.c21
      have f18 := HX.out.fz 18
      have f20 := HX.out.fz 20
      have f21 := HX.out.fz 21
      have f23 := HX.out.fz 23
      have hlt : b ≠ g := fun e => HNB.out (e ▸ HX.out.mem)
      have HNE := Lib.hid hlt
      clear hlt
      by_cases q1 : c.window = 0
      · have b1 : (c.window == 0) = true := by simpa using q1
        by_cases q2 : 0 < s.window
        · have b2 : decide (0 < s.window) = true := by simpa using q2
          by_cases q3 : c.nxt = c.una
          · have b3 : (c.nxt == c.una) = true := by simpa using q3
            have HQ : Hid ((if c.window = 0 ∧ 0 < s.window ∧ c.nxt = c.una then 0 else c.left) = 0) := Lib.hid (if_pos ⟨q1, q2, q3⟩)
            clear q1 q3
            go_quiet (fail)
            have HR : Hid (c.opens s = { c with left := 0, window := s.window, seq := s.seq, ack := s.ack }) := Lib.hid (by unfold CN.opens; rw [HN.out, if_pos rfl, HQ.out])
            go_wp2_with fail
            go_region
            all_goals go_end0
            all_goals refine ⟨rfl, ?_⟩
            all_goals rw [HR.out]
            all_goals exact CnTo.after HFX.out (fun i hi => HBZ.out ▸ HIX.out i hi) (CnTo.self (c' := { c with left := 0, window := s.window, seq := s.seq, ack := s.ack }) HX.out (fun _ _ _ _ hb => ((((((hb.drewN _).set_ 23 _).set_ 18 _).set_ 20 _).set_to 21 _ rfl).drew)) (((((((Frm.refl _ _).drewN _).setCell (.inl (by simp)) _).setCell (.inl (by simp)) _).setCell (.inl (by simp)) _).setCell (.inl (by simp)) _).drew) rfl rfl rfl rfl (fun h => HR.out ▸ h.opens HS.out))
          · have b3 : (c.nxt == c.una) = false := by simpa using q3
            have HQ : Hid ((if c.window = 0 ∧ 0 < s.window ∧ c.nxt = c.una then 0 else c.left) = c.left) := Lib.hid (if_neg (by simp [q3]))
            clear q1 q3
            go_quiet (fail)
            have HR : Hid (c.opens s = { c with left := c.left, window := s.window, seq := s.seq, ack := s.ack }) := Lib.hid (by unfold CN.opens; rw [HN.out, if_pos rfl, HQ.out])
            go_wp2_with fail
            go_region
            all_goals go_end0
            all_goals refine ⟨rfl, ?_⟩
            all_goals rw [HR.out]
            all_goals exact CnTo.after HFX.out (fun i hi => HBZ.out ▸ HIX.out i hi) (CnTo.self (c' := { c with left := c.left, window := s.window, seq := s.seq, ack := s.ack }) HX.out (fun _ _ _ _ hb => (((hb.drewN _).set_ 18 _).set_ 20 _).set_to 21 _ rfl) (((((Frm.refl _ _).drewN _).setCell (.inl (by simp)) _).setCell (.inl (by simp)) _).setCell (.inl (by simp)) _) rfl rfl rfl rfl (fun h => HR.out ▸ h.opens HS.out))
        · have b2 : decide (0 < s.window) = false := by simpa using q2
          have HQ : Hid ((if c.window = 0 ∧ 0 < s.window ∧ c.nxt = c.una then 0 else c.left) = c.left) := Lib.hid (if_neg (by simp [q2]))
          clear q1
          go_quiet (fail)
          have HR : Hid (c.opens s = { c with left := c.left, window := s.window, seq := s.seq, ack := s.ack }) := Lib.hid (by unfold CN.opens; rw [HN.out, if_pos rfl, HQ.out])
          go_wp2_with fail
          go_region
          all_goals go_end0
          all_goals refine ⟨rfl, ?_⟩
          all_goals rw [HR.out]
          all_goals exact CnTo.after HFX.out (fun i hi => HBZ.out ▸ HIX.out i hi) (CnTo.self (c' := { c with left := c.left, window := s.window, seq := s.seq, ack := s.ack }) HX.out (fun _ _ _ _ hb => (((hb.drewN _).set_ 18 _).set_ 20 _).set_to 21 _ rfl) (((((Frm.refl _ _).drewN _).setCell (.inl (by simp)) _).setCell (.inl (by simp)) _).setCell (.inl (by simp)) _) rfl rfl rfl rfl (fun h => HR.out ▸ h.opens HS.out))
      · have b1 : (c.window == 0) = false := by simpa using q1
        have HQ : Hid ((if c.window = 0 ∧ 0 < s.window ∧ c.nxt = c.una then 0 else c.left) = c.left) := Lib.hid (if_neg (by simp [q1]))
        clear q1
        go_quiet (fail)
        have HR : Hid (c.opens s = { c with left := c.left, window := s.window, seq := s.seq, ack := s.ack }) := Lib.hid (by unfold CN.opens; rw [HN.out, if_pos rfl, HQ.out])
        go_wp2_with fail
        go_region
        all_goals go_end0
        all_goals refine ⟨rfl, ?_⟩
        all_goals rw [HR.out]
        all_goals exact CnTo.after HFX.out (fun i hi => HBZ.out ▸ HIX.out i hi) (CnTo.self (c' := { c with left := c.left, window := s.window, seq := s.seq, ack := s.ack }) HX.out (fun _ _ _ _ hb => (((hb.drewN _).set_ 18 _).set_ 20 _).set_to 21 _ rfl) (((((Frm.refl _ _).drewN _).setCell (.inl (by simp)) _).setCell (.inl (by simp)) _).setCell (.inl (by simp)) _) rfl rfl rfl rfl (fun h => HR.out ▸ h.opens HS.out))
  · have hn : c.news s = false := by unfold CN.news; rw [hA]; rfl
    have hlA := fun (wx : World) k => less_any s.ack c.una (wx.drewN k)
    rw [hA] at hlA
    have HA := Lib.hid hA
    have HLA := Lib.hid hlA
    clear hlA hA
    have HN := Lib.hid hn
    have HBOX := Lib.hid hbox
    have HWS := Lib.hid (And.intro hws (And.intro hs1 hcw))
    clear hn hbox hws hs1 hcw
    try clear hE
    go_enter Try.func44, Try.ntmps44
    go_upto_region 1 with fail
    refine wp_world (fun wx => Boxed w wx B fp g w.heap.size c s) HBOX.out ?_
    rintro wx ⟨fp1, hx, hfx, hix, hb, hnb, hBb⟩
    generalize hbz : w.heap.size = b at *
    have x2 : wx.cell? ⟨b, 2, none⟩ = some (.int .u32 s.seq) := hb.cell 2
    have x3 : wx.cell? ⟨b, 3, none⟩ = some (.int .u32 s.ack) := hb.cell 3
    have d11 := hx.c11
    have d20 := hx.c20
    have d21 := hx.c21
    have HX := Lib.hid hx
    have HB := Lib.hid hb
    have HFX := Lib.hid hfx
    have HIX := Lib.hid hix
    have HNB := Lib.hid hnb
    have HBB := Lib.hid hBb
    have HBZ := Lib.hid hbz
    clear hx hb hfx hix hnb hBb hbz
    go_quiet ((go_at_call 63; first | (with_reducible exact quiet_left (HLA.out _ _))))
    go_wp2_with fail
    refine bodyPost_ret (results_none rfl _ _ _) rfl ?_
    refine ⟨rfl, ?_⟩
    rw [show c.opens s = c from by unfold CN.opens; rw [HN.out]; rfl]
    exact CnTo.after HFX.out (fun i hi => HBZ.out ▸ HIX.out i hi) (HX.out.to.drw (Drw.mk _ _))

end Go.Proofs.Ytpmlojgngcllfaa
