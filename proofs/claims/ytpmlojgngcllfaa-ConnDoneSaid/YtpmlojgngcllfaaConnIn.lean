/- The contracts of package conn: In. -/
import Derived.Test.YtpmlojgngcllfaaConnOut
namespace Go.Proofs.Ytpmlojgngcllfaa
open Go.RowKit Go

set_option maxRecDepth 100000 in
set_option maxHeartbeats 4000000 in
theorem cin1 {B g : Nat} {fp : List Nat} {c : CN} (w : World) (s : Sg) (h9 : c.state = 9) (h : CnIn w B fp g c) :
    Calls Try.prog 18 #[.pointer (some ⟨g, 0, none⟩), .agg #[.int .i64 s.frm, .int .i64 s.dst, .int .u32 s.seq, .int .u32 s.ack, .int .i64 s.flags, .int .i64 s.window, .int .i64 s.mss, .string ⟨s.data.toArray⟩]] w fun e w' => e = .returned (.tuple #[]) ∧ CnTo w w' B fp g c := by
  have hbox := boxed_new s h
  clear h
  have q9 : (c.state == 9) = true := by simpa using h9
  clear h9
  go_enter Try.func18, Try.ntmps18
  go_upto_region 1 with fail
  refine wp_world (fun wx => Boxed w wx B fp g w.heap.size c s) hbox ?_
  clear hbox
  rintro w0 ⟨fp0, hx0, hf0, hi0, hb0, hn0, hB⟩
  obtain ⟨b, hbz⟩ : ∃ b, b = w.heap.size := ⟨_, rfl⟩
  rw [← hbz] at hb0 hn0
  rw [← hbz]
  clear hB
  have hB : w.heap.size ≤ b := Nat.le_of_eq hbz.symm
  clear hbz
  have d7 := hx0.c7
  go_wp2_with fail
  refine (cnone_in _ hx0).mono ?_
  rintro e w' ⟨rfl, rfl⟩
  go_wp2_with fail
  refine bodyPost_ret (results_none rfl _ _ _) rfl ?_
  exact ⟨rfl, fp0, hx0, hf0, hi0⟩

set_option maxRecDepth 100000 in
set_option maxHeartbeats 4000000 in
theorem cin2 {B g : Nat} {fp : List Nat} {c : CN} (w : World) (s : Sg) (hn : c.out.length ≤ 1000000) (hs : s.Ok) (h9 : c.state ≠ 9) (hct : (c.counts s).1 = false) (h : CnIn w B fp g c) :
    Calls Try.prog 18 #[.pointer (some ⟨g, 0, none⟩), .agg #[.int .i64 s.frm, .int .i64 s.dst, .int .u32 s.seq, .int .u32 s.ack, .int .i64 s.flags, .int .i64 s.window, .int .i64 s.mss, .string ⟨s.data.toArray⟩]] w fun e w' => e = .returned (.tuple #[]) ∧ CnTo w w' B fp g (c.counts s).2 := by
  have hbox := boxed_new s h
  clear h
  have q9 : (c.state == 9) = false := by simpa using h9
  clear h9
  go_enter Try.func18, Try.ntmps18
  go_upto_region 1 with fail
  refine wp_world (fun wx => Boxed w wx B fp g w.heap.size c s) hbox ?_
  clear hbox
  rintro w0 ⟨fp0, hx0, hf0, hi0, hb0, hn0, hB⟩
  obtain ⟨b, hbz⟩ : ∃ b, b = w.heap.size := ⟨_, rfl⟩
  rw [← hbz] at hb0 hn0
  rw [← hbz]
  clear hB
  have hB : w.heap.size ≤ b := Nat.le_of_eq hbz.symm
  clear hbz
  have d7 := hx0.c7
  have x0_0 : w0.cell? ⟨b, 0, none⟩ = some (.int .i64 s.frm) := hb0.cell 0
  have x1_0 : w0.cell? ⟨b, 1, none⟩ = some (.int .i64 s.dst) := hb0.cell 1
  have x2_0 : w0.cell? ⟨b, 2, none⟩ = some (.int .u32 s.seq) := hb0.cell 2
  have x3_0 : w0.cell? ⟨b, 3, none⟩ = some (.int .u32 s.ack) := hb0.cell 3
  have x4_0 : w0.cell? ⟨b, 4, none⟩ = some (.int .i64 s.flags) := hb0.cell 4
  have x5_0 : w0.cell? ⟨b, 5, none⟩ = some (.int .i64 s.window) := hb0.cell 5
  have x6_0 : w0.cell? ⟨b, 6, none⟩ = some (.int .i64 s.mss) := hb0.cell 6
  have x7_0 : w0.cell? ⟨b, 7, none⟩ = some (.string ⟨s.data.toArray⟩) := hb0.cell 7
  go_wp2_with fail
  refine (cnone_in _ hx0).mono ?_
  rintro e w' ⟨rfl, rfl⟩
  go_wp2_with fail
  refine (ccounts_in _ s hn hs hx0).mono ?_
  rw [hct]
  rintro e w1 ⟨rfl, hto⟩
  obtain ⟨fp1, hx1, hf1, hi1, hb1, hn1, -⟩ := boxed_next hf0 hi0 hb0 hn0 hB hto
  clear x0_0 x1_0 x2_0 x3_0 x4_0 x5_0 x6_0 x7_0
  clear hto hx0 hf0 hi0 hb0 hn0
  have x0_1 : w1.cell? ⟨b, 0, none⟩ = some (.int .i64 s.frm) := hb1.cell 0
  have x1_1 : w1.cell? ⟨b, 1, none⟩ = some (.int .i64 s.dst) := hb1.cell 1
  have x2_1 : w1.cell? ⟨b, 2, none⟩ = some (.int .u32 s.seq) := hb1.cell 2
  have x3_1 : w1.cell? ⟨b, 3, none⟩ = some (.int .u32 s.ack) := hb1.cell 3
  have x4_1 : w1.cell? ⟨b, 4, none⟩ = some (.int .i64 s.flags) := hb1.cell 4
  have x5_1 : w1.cell? ⟨b, 5, none⟩ = some (.int .i64 s.window) := hb1.cell 5
  have x6_1 : w1.cell? ⟨b, 6, none⟩ = some (.int .i64 s.mss) := hb1.cell 6
  have x7_1 : w1.cell? ⟨b, 7, none⟩ = some (.string ⟨s.data.toArray⟩) := hb1.cell 7
  clear d7
  go_wp2_with fail
  refine bodyPost_ret (results_none rfl _ _ _) rfl ?_
  exact ⟨rfl, fp1, hx1, hf1, hi1⟩

set_option maxRecDepth 100000 in
set_option maxHeartbeats 4000000 in
theorem cin3 {B g : Nat} {fp : List Nat} {c : CN} (w : World) (s : Sg) (hn : c.out.length ≤ 800000) (hs : s.Ok) (h9 : c.state ≠ 9) (hct : (c.counts s).1 = true) (h : CnIn w B fp g c) :
    Calls Try.prog 18 #[.pointer (some ⟨g, 0, none⟩), .agg #[.int .i64 s.frm, .int .i64 s.dst, .int .u32 s.seq, .int .u32 s.ack, .int .i64 s.flags, .int .i64 s.window, .int .i64 s.mss, .string ⟨s.data.toArray⟩]] w fun e w' => e = .returned (.tuple #[]) ∧ CnTo w w' B fp g ((c.counts s).2.inn2 s) := by
  have hbox := boxed_new s h
  clear h
  have q9 : (c.state == 9) = false := by simpa using h9
  have hc1 := c.counts_out s
  obtain ⟨c1, e1⟩ : ∃ c1, (c.counts s).2 = c1 := ⟨_, rfl⟩
  obtain ⟨c2, e2⟩ : ∃ c2, c1.covers s.ack = c2 := ⟨_, rfl⟩
  obtain ⟨c3, e3⟩ : ∃ c3, c2.opens s = c3 := ⟨_, rfl⟩
  obtain ⟨c4, e4⟩ : ∃ c4, c3.acks = c4 := ⟨_, rfl⟩
  obtain ⟨c5, e5⟩ : ∃ c5, c4.takes s = c5 := ⟨_, rfl⟩
  have hres : (c.counts s).2.inn2 s = c5.flush.echo s c5.out.length := by rw [e1]; unfold CN.inn2; rw [e2, e3, e4, e5]
  have hl : c5.out.length ≤ 800001 := by rw [← e5, CN.takes_out, ← e4, CN.acks_out, ← e3, CN.opens_out, ← e2, CN.covers_out, ← e1]; omega
  rw [hres]
  obtain ⟨R, hR⟩ : ∃ R, c5.flush.echo s c5.out.length = R := ⟨_, rfl⟩
  rw [hR]
  have HR := Lib.hid hR
  have HCT := Lib.hid hct
  have HE1 := Lib.hid e1
  have HE2 := Lib.hid e2
  have HE3 := Lib.hid e3
  have HE4 := Lib.hid e4
  have HE5 := Lib.hid e5
  have hn' : c.out.length ≤ 1000000 := by omega
  clear h9 hct hc1 e1 e2 e3 e4 e5 hR hres
  go_enter Try.func18, Try.ntmps18
  go_upto_region 1 with fail
  refine wp_world (fun wx => Boxed w wx B fp g w.heap.size c s) hbox ?_
  clear hbox
  rintro w0 ⟨fp0, hx0, hf0, hi0, hb0, hn0, hB⟩
  obtain ⟨b, hbz⟩ : ∃ b, b = w.heap.size := ⟨_, rfl⟩
  rw [← hbz] at hb0 hn0
  rw [← hbz]
  clear hB
  have hB : w.heap.size ≤ b := Nat.le_of_eq hbz.symm
  clear hbz
  have d7 := hx0.c7
  have x0_0 : w0.cell? ⟨b, 0, none⟩ = some (.int .i64 s.frm) := hb0.cell 0
  have x1_0 : w0.cell? ⟨b, 1, none⟩ = some (.int .i64 s.dst) := hb0.cell 1
  have x2_0 : w0.cell? ⟨b, 2, none⟩ = some (.int .u32 s.seq) := hb0.cell 2
  have x3_0 : w0.cell? ⟨b, 3, none⟩ = some (.int .u32 s.ack) := hb0.cell 3
  have x4_0 : w0.cell? ⟨b, 4, none⟩ = some (.int .i64 s.flags) := hb0.cell 4
  have x5_0 : w0.cell? ⟨b, 5, none⟩ = some (.int .i64 s.window) := hb0.cell 5
  have x6_0 : w0.cell? ⟨b, 6, none⟩ = some (.int .i64 s.mss) := hb0.cell 6
  have x7_0 : w0.cell? ⟨b, 7, none⟩ = some (.string ⟨s.data.toArray⟩) := hb0.cell 7
  go_wp2_with fail
  refine (cnone_in _ hx0).mono ?_
  rintro e w' ⟨rfl, rfl⟩
  go_wp2_with fail
  refine (ccounts_in _ s hn' hs hx0).mono ?_
  rw [HCT.out, HE1.out]
  rintro e w1 ⟨rfl, hto⟩
  obtain ⟨fp1, hx1, hf1, hi1, hb1, hn1, -⟩ := boxed_next hf0 hi0 hb0 hn0 hB hto
  clear x0_0 x1_0 x2_0 x3_0 x4_0 x5_0 x6_0 x7_0
  clear hto hx0 hf0 hi0 hb0 hn0
  have x0_1 : w1.cell? ⟨b, 0, none⟩ = some (.int .i64 s.frm) := hb1.cell 0
  have x1_1 : w1.cell? ⟨b, 1, none⟩ = some (.int .i64 s.dst) := hb1.cell 1
  have x2_1 : w1.cell? ⟨b, 2, none⟩ = some (.int .u32 s.seq) := hb1.cell 2
  have x3_1 : w1.cell? ⟨b, 3, none⟩ = some (.int .u32 s.ack) := hb1.cell 3
  have x4_1 : w1.cell? ⟨b, 4, none⟩ = some (.int .i64 s.flags) := hb1.cell 4
  have x5_1 : w1.cell? ⟨b, 5, none⟩ = some (.int .i64 s.window) := hb1.cell 5
  have x6_1 : w1.cell? ⟨b, 6, none⟩ = some (.int .i64 s.mss) := hb1.cell 6
  have x7_1 : w1.cell? ⟨b, 7, none⟩ = some (.string ⟨s.data.toArray⟩) := hb1.cell 7
  clear d7 HCT
  go_wp2_with fail
  refine (ccovers_in _ s.ack hs.a0 hs.a1 hx1).mono ?_
  rw [HE2.out]
  rintro e w2 ⟨rfl, hto⟩
  obtain ⟨fp2, hx2, hf2, hi2, hb2, hn2, -⟩ := boxed_next hf1 hi1 hb1 hn1 hB hto
  clear x0_1 x1_1 x2_1 x3_1 x4_1 x5_1 x6_1 x7_1
  clear hto hx1 hf1 hi1 hb1 hn1
  have x0_2 : w2.cell? ⟨b, 0, none⟩ = some (.int .i64 s.frm) := hb2.cell 0
  have x1_2 : w2.cell? ⟨b, 1, none⟩ = some (.int .i64 s.dst) := hb2.cell 1
  have x2_2 : w2.cell? ⟨b, 2, none⟩ = some (.int .u32 s.seq) := hb2.cell 2
  have x3_2 : w2.cell? ⟨b, 3, none⟩ = some (.int .u32 s.ack) := hb2.cell 3
  have x4_2 : w2.cell? ⟨b, 4, none⟩ = some (.int .i64 s.flags) := hb2.cell 4
  have x5_2 : w2.cell? ⟨b, 5, none⟩ = some (.int .i64 s.window) := hb2.cell 5
  have x6_2 : w2.cell? ⟨b, 6, none⟩ = some (.int .i64 s.mss) := hb2.cell 6
  have x7_2 : w2.cell? ⟨b, 7, none⟩ = some (.string ⟨s.data.toArray⟩) := hb2.cell 7
  go_wp2_with fail
  refine (copens_in _ s hs hx2).mono ?_
  rw [HE3.out]
  rintro e w3 ⟨rfl, hto⟩
  obtain ⟨fp3, hx3, hf3, hi3, hb3, hn3, -⟩ := boxed_next hf2 hi2 hb2 hn2 hB hto
  clear x0_2 x1_2 x2_2 x3_2 x4_2 x5_2 x6_2 x7_2
  clear hto hx2 hf2 hi2 hb2 hn2
  have x0_3 : w3.cell? ⟨b, 0, none⟩ = some (.int .i64 s.frm) := hb3.cell 0
  have x1_3 : w3.cell? ⟨b, 1, none⟩ = some (.int .i64 s.dst) := hb3.cell 1
  have x2_3 : w3.cell? ⟨b, 2, none⟩ = some (.int .u32 s.seq) := hb3.cell 2
  have x3_3 : w3.cell? ⟨b, 3, none⟩ = some (.int .u32 s.ack) := hb3.cell 3
  have x4_3 : w3.cell? ⟨b, 4, none⟩ = some (.int .i64 s.flags) := hb3.cell 4
  have x5_3 : w3.cell? ⟨b, 5, none⟩ = some (.int .i64 s.window) := hb3.cell 5
  have x6_3 : w3.cell? ⟨b, 6, none⟩ = some (.int .i64 s.mss) := hb3.cell 6
  have x7_3 : w3.cell? ⟨b, 7, none⟩ = some (.string ⟨s.data.toArray⟩) := hb3.cell 7
  have d15 := hx3.c15
  go_upto_if 30 with fail
  go_cut [] (fun wy => Boxed w wy B fp g b c4 s)
  case first =>
    rcases hak : c3.acked with _ | _
    · have d15' : w3.cell? ⟨g, 15, none⟩ = some (.bool false) := d15.trans (by rw [← hak])
      have h4 : c4 = c3 := by rw [← HE4.out]; unfold CN.acks; rw [hak]; rfl
      have H4 := Lib.hid h4
      clear d15 hak h4
      go_wp2_with fail
      go_meet
      rw [H4.out]
      exact ⟨fp3, hx3, hf3, hi3, hb3, hn3, hB⟩
    · have d15' : w3.cell? ⟨g, 15, none⟩ = some (.bool true) := d15.trans (by rw [← hak])
      have h4 : c4 = ((c3.turn 3 4).turn 5 6).turn 8 9 := by rw [← HE4.out]; unfold CN.acks; rw [hak]; rfl
      have H4 := Lib.hid h4
      clear d15 hak h4
      go_wp2_with fail
      refine (cturn_in _ 3 4 hx3).mono ?_
      rintro e v1 ⟨rfl, fq1, hy1, hg1, hj1⟩
      go_wp2_with fail
      refine (cturn_in _ 5 6 hy1).mono ?_
      rintro e v2 ⟨rfl, fq2, hy2, hg2, hj2⟩
      go_wp2_with fail
      refine (cturn_in _ 8 9 hy2).mono ?_
      rintro e v3 ⟨rfl, hto3⟩
      go_wp2_with fail
      go_meet
      rw [H4.out]
      exact boxed_next hf3 hi3 hb3 hn3 hB (CnTo.after hg1 hj1 (CnTo.after hg2 hj2 hto3))
  case rest =>
    clear d15
    clear x0_3 x1_3 x2_3 x3_3 x4_3 x5_3 x6_3 x7_3
    clear hx3 hf3 hi3 hb3 hn3 HE4
    obtain ⟨fp4, hx4, hf4, hi4, hb4, hn4, hB⟩ := hcut
    obtain ⟨w4, hwc⟩ : ∃ w4, w4 = wc := ⟨_, rfl⟩
    subst hwc
    have x0_4 : w4.cell? ⟨b, 0, none⟩ = some (.int .i64 s.frm) := hb4.cell 0
    have x1_4 : w4.cell? ⟨b, 1, none⟩ = some (.int .i64 s.dst) := hb4.cell 1
    have x2_4 : w4.cell? ⟨b, 2, none⟩ = some (.int .u32 s.seq) := hb4.cell 2
    have x3_4 : w4.cell? ⟨b, 3, none⟩ = some (.int .u32 s.ack) := hb4.cell 3
    have x4_4 : w4.cell? ⟨b, 4, none⟩ = some (.int .i64 s.flags) := hb4.cell 4
    have x5_4 : w4.cell? ⟨b, 5, none⟩ = some (.int .i64 s.window) := hb4.cell 5
    have x6_4 : w4.cell? ⟨b, 6, none⟩ = some (.int .i64 s.mss) := hb4.cell 6
    have x7_4 : w4.cell? ⟨b, 7, none⟩ = some (.string ⟨s.data.toArray⟩) := hb4.cell 7
    go_wp2_with fail
    refine (ctakes_in _ s hs hx4).mono ?_
    rw [HE5.out]
    rintro e w5 ⟨rfl, hto⟩
    obtain ⟨fp5, hx5, hf5, hi5, hb5, hn5, -⟩ := boxed_next hf4 hi4 hb4 hn4 hB hto
    clear x0_4 x1_4 x2_4 x3_4 x4_4 x5_4 x6_4 x7_4
    clear hto hx4 hf4 hi4 hb4 hn4
    have x0_5 : w5.cell? ⟨b, 0, none⟩ = some (.int .i64 s.frm) := hb5.cell 0
    have x1_5 : w5.cell? ⟨b, 1, none⟩ = some (.int .i64 s.dst) := hb5.cell 1
    have x2_5 : w5.cell? ⟨b, 2, none⟩ = some (.int .u32 s.seq) := hb5.cell 2
    have x3_5 : w5.cell? ⟨b, 3, none⟩ = some (.int .u32 s.ack) := hb5.cell 3
    have x4_5 : w5.cell? ⟨b, 4, none⟩ = some (.int .i64 s.flags) := hb5.cell 4
    have x5_5 : w5.cell? ⟨b, 5, none⟩ = some (.int .i64 s.window) := hb5.cell 5
    have x6_5 : w5.cell? ⟨b, 6, none⟩ = some (.int .i64 s.mss) := hb5.cell 6
    have x7_5 : w5.cell? ⟨b, 7, none⟩ = some (.string ⟨s.data.toArray⟩) := hb5.cell 7
    obtain ⟨A, cap, d30, hcap⟩ := hx5.c30
    have hl63 : c5.out.length ≤ 9223372036854775807 := by omega
    have hfo := CN.flush_out hx5.ok
    have hl2 : c5.out.length ≤ 900000 := by omega
    go_wp2_with fail
    refine (cflush_in _ hl2 hx5).mono ?_
    clear d30 hcap
    rintro e w6 ⟨rfl, hto⟩
    obtain ⟨fp6, hx6, hf6, hi6, hb6, hn6, -⟩ := boxed_next hf5 hi5 hb5 hn5 hB hto
    clear x0_5 x1_5 x2_5 x3_5 x4_5 x5_5 x6_5 x7_5
    clear hto hx5 hf5 hi5 hb5 hn5
    have x0_6 : w6.cell? ⟨b, 0, none⟩ = some (.int .i64 s.frm) := hb6.cell 0
    have x1_6 : w6.cell? ⟨b, 1, none⟩ = some (.int .i64 s.dst) := hb6.cell 1
    have x2_6 : w6.cell? ⟨b, 2, none⟩ = some (.int .u32 s.seq) := hb6.cell 2
    have x3_6 : w6.cell? ⟨b, 3, none⟩ = some (.int .u32 s.ack) := hb6.cell 3
    have x4_6 : w6.cell? ⟨b, 4, none⟩ = some (.int .i64 s.flags) := hb6.cell 4
    have x5_6 : w6.cell? ⟨b, 5, none⟩ = some (.int .i64 s.window) := hb6.cell 5
    have x6_6 : w6.cell? ⟨b, 6, none⟩ = some (.int .i64 s.mss) := hb6.cell 6
    have x7_6 : w6.cell? ⟨b, 7, none⟩ = some (.string ⟨s.data.toArray⟩) := hb6.cell 7
    obtain ⟨c6, e6⟩ : ∃ c6, c5.flush = c6 := ⟨_, rfl⟩
    rw [e6] at hx6 hfo
    have HE6 := Lib.hid e6
    obtain ⟨A6, cap6, d30, hcap⟩ := hx6.c30
    clear e6
    go_wp2_with fail
    refine (len_any s _ hs.dl).mono ?_
    rintro e wz ⟨rfl, hfz⟩
    have hz := hx6.frm hfz (by simp)
    obtain ⟨A7, cap7, d30', hcap'⟩ := hz.c30
    have hfw := hf6.next0 hfz
    have hno6 : c6.out.length ≤ 1000000 := by omega
    clear d30 hcap hb6 hn6 hfz
    clear x0_6 x1_6 x2_6 x3_6 x4_6 x5_6 x6_6 x7_6
    rcases Int.lt_or_le 0 s.len with hp | hp
    · have q1 : decide (0 < s.len) = true := by simpa using hp
      by_cases hq : c6.out.length = c5.out.length
      · have q2 : (((c6.out.length : Nat) : Int) == ((c5.out.length : Nat) : Int)) = true := by rw [hq]; simp
        have hR2 : R = c6.tell := by rw [← HR.out, HE6.out]; unfold CN.echo; rw [if_pos ⟨hp, hq⟩]
        have HR2 := Lib.hid hR2
        clear hR2 hq
        go_wp2_with fail
        refine (ctell_in _ hno6 hz).mono ?_
        rintro e w9 ⟨rfl, hto⟩
        go_wp2_with fail
        go_end0
        refine ⟨rfl, ?_⟩
        rw [HR2.out]
        exact CnTo.after hfw hi6 hto
      · have q2 : (((c6.out.length : Nat) : Int) == ((c5.out.length : Nat) : Int)) = false := by rw [beq_eq_false_iff_ne]; omega
        have hR2 : R = c6 := by rw [← HR.out, HE6.out]; unfold CN.echo; rw [if_neg (by simp [hq])]
        have HR2 := Lib.hid hR2
        clear hR2 hq
        go_wp2_with fail
        go_end0
        refine ⟨rfl, ?_⟩
        rw [HR2.out]
        exact CnTo.after hfw hi6 hz.to
    · have q1 : decide (0 < s.len) = false := by simpa using hp
      have hR2 : R = c6 := by rw [← HR.out, HE6.out]; unfold CN.echo; rw [if_neg (by omega)]
      have HR2 := Lib.hid hR2
      clear hR2
      go_wp2_with fail
      go_end0
      refine ⟨rfl, ?_⟩
      rw [HR2.out]
      exact CnTo.after hfw hi6 hz.to

theorem cin_in {B g : Nat} {fp : List Nat} {c : CN} (w : World) (s : Sg) (hn : c.out.length ≤ 800000) (hs : s.Ok) (h : CnIn w B fp g c) :
    Calls Try.prog 18 #[.pointer (some ⟨g, 0, none⟩), .agg #[.int .i64 s.frm, .int .i64 s.dst, .int .u32 s.seq, .int .u32 s.ack, .int .i64 s.flags, .int .i64 s.window, .int .i64 s.mss, .string ⟨s.data.toArray⟩]] w fun e w' => e = .returned (.tuple #[]) ∧ CnTo w w' B fp g (c.inn s) := by
  unfold CN.inn
  by_cases h9 : c.state = 9
  · rw [if_pos h9]
    exact cin1 w s h9 h
  · rw [if_neg h9]
    rcases hct : (c.counts s).1 with _ | _
    · rw [if_neg (by simp)]
      exact cin2 w s (by omega) hs h9 hct h
    · rw [if_pos rfl]
      exact cin3 w s hn hs h9 hct h

theorem CN.inn_out {c : CN} {s : Sg} (hok : (((((c.counts s).2.covers s.ack).opens s).acks).takes s).Ok) : (c.inn s).out.length ≤ c.out.length + 2051 := by
  have h1 := c.counts_out s
  unfold CN.inn
  split
  · omega
  · split
    · unfold CN.inn2
      have h2 := CN.flush_out hok
      have h3 : (((((c.counts s).2.covers s.ack).opens s).acks).takes s).out.length = (c.counts s).2.out.length := by rw [CN.takes_out, CN.acks_out, CN.opens_out, CN.covers_out]
      show (CN.echo _ s _).out.length ≤ _
      unfold CN.echo
      split
      · rw [CN.tell_out]
        omega
      · omega
    · omega

end Go.Proofs.Ytpmlojgngcllfaa
