/- The contracts of package conn: answers. -/
import Derived.Test.YtpmlojgngcllfaaConnLen
namespace Go.Proofs.Ytpmlojgngcllfaa
open Go.RowKit Go

set_option linter.unusedSimpArgs false in
set_option maxRecDepth 100000 in
set_option maxHeartbeats 2000000 in
theorem canswers1 {B g : Nat} {fp : List Nat} {c : CN} (w : World) (s : Sg) (hn : c.out.length ≤ 1000000) (hst : c.state = 1) (hak : s.ack ≠ (c.iss + 1) % M32) (h : CnIn w B fp g c) :
    Calls Try.prog 62 #[.pointer (some ⟨g, 0, none⟩), .agg #[.int .i64 s.frm, .int .i64 s.dst, .int .u32 s.seq, .int .u32 s.ack, .int .i64 s.flags, .int .i64 s.window, .int .i64 s.mss, .string ⟨s.data.toArray⟩]] w fun e w' => e = .returned (.bool false) ∧ CnTo w w' B fp g { c with out := c.out ++ [⟨c.frm, c.dst, s.ack, 0, 4, 0, 0, []⟩] } := by
  have hbox := boxed_new s h
  have HBOX := Lib.hid hbox
  have HO := Lib.hid h.ok
  clear hbox h
  have b1 : (c.state == 1) = true := by simpa using hst
  have b2 : (s.ack != (c.iss + 1) % 4294967296) = true := by simpa [M32] using hak
  clear hst hak
  go_enter Try.func62, Try.ntmps62
  go_upto_region 1 with fail
  refine wp_world (fun wx => Boxed w wx B fp g w.heap.size c s) HBOX.out ?_
  rintro wx ⟨fp1, hx, hfx, hix, hb, hnb, hBb⟩
  generalize hbz : w.heap.size = b at *
  have x2 : wx.cell? ⟨b, 2, none⟩ = some (.int .u32 s.seq) := hb.cell 2
  have x3 : wx.cell? ⟨b, 3, none⟩ = some (.int .u32 s.ack) := hb.cell 3
  have x5 : wx.cell? ⟨b, 5, none⟩ = some (.int .i64 s.window) := hb.cell 5
  have d7 := hx.c7
  have d9 := hx.c9
  have d11 := hx.c11
  have d13 := hx.c13
  have HX := Lib.hid hx
  have HB := Lib.hid hb
  have HFX := Lib.hid hfx
  have HIX := Lib.hid hix
  have HNB := Lib.hid hnb
  have HBB := Lib.hid hBb
  have HBZ := Lib.hid hbz
  clear hx hb hfx hix hnb hBb hbz
  go_quiet (fail)
  go_upto_region 2 with fail
  clear d7 d9 d11 d13 x2 x5
  obtain ⟨gs, gi, gd, gh, gc, rv, ov, hin, hfp, ho, hB⟩ := HX.out.drw (Drw.mk wx nq)
  have hb3 := HB.out.drewN nq
  refine wp_world (fun wz => wz = wx.drewN nq) rfl ?_
  intro wz hwz
  rw [← hwz] at hin hB hb3
  have d0 : wz.cell? ⟨g, 0, none⟩ = some (.int .i64 c.frm) := hin.blk.cell 0
  have d1 : wz.cell? ⟨g, 1, none⟩ = some (.int .i64 c.dst) := hin.blk.cell 1
  have x3 : wz.cell? ⟨b, 3, none⟩ = some (.int .u32 s.ack) := hb3.cell 3
  have d30 : wz.cell? ⟨g, 30, none⟩ = some ov := hin.blk.cell 30
  have hlt := hin.blk.lt
  have hlb := hb3.lt
  have hown := hin.own
  have hne := own_ne hin.own hin.blk (by decide)
  have hnb : ov.ownBlock ≠ some b := fun e => HNB.out (by rw [hfp]; simp [e])
  have HIN := Lib.hid hin
  have HFP := Lib.hid hfp
  have HW := Lib.hid hwz
  clear hin hfp hwz hb3
  refine' wp_region_list _ _ 20 (fun w' => w'.cell? ⟨g, 0, none⟩ = some (.int .i64 c.frm) ∧ w'.cell? ⟨g, 1, none⟩ = some (.int .i64 c.dst) ∧ w'.cell? ⟨b, 3, none⟩ = some (.int .u32 s.ack) ∧ w'.cell? ⟨g, 30, none⟩ = some ov) ?hl ?ho (by kernel_rfl) ?hsz ?hs ?hback ?hgd ⟨d0, d1, x3, d30⟩ ?_
  case hl => (simp only [List.dropLast_cons_cons, List.dropLast_singleton]; rfl)
  case ho => rfl
  case hsz => rfl
  case hs => kernel_rfl
  case hback => kernel_rfl
  case hgd => kernel_rfl
  intro hS
  refine wpAnyH_take (i := 0) (oi := _) (v := ?_) rfl (by kernel_rfl) (by kernel_rfl) (by kernel_rfl) (fun _ _ _ h => h) (Or.inl ⟨by rfl, ?_⟩) (by assumption) ?_
  rotate_left
  · intro wy hSw; (try dsimp only at hSw); go_simp; try with_reducible rfl
  try simp only [Act.put, List.setIfInBounds_toArray, List.set_cons_zero, List.set_cons_succ]
  refine wpAnyH_take (i := 1) (oi := _) (v := ?_) rfl (by kernel_rfl) (by kernel_rfl) (by kernel_rfl) (fun _ _ _ h => h) (Or.inl ⟨by rfl, ?_⟩) (by assumption) ?_
  rotate_left
  · intro wy hSw; (try dsimp only at hSw); go_simp; try with_reducible rfl
  try simp only [Act.put, List.setIfInBounds_toArray, List.set_cons_zero, List.set_cons_succ]
  refine wpAnyH_take (i := 2) (oi := _) (v := ?_) rfl (by kernel_rfl) (by kernel_rfl) (by kernel_rfl) (fun _ _ _ h => h) (Or.inl ⟨by rfl, ?_⟩) (by assumption) ?_
  rotate_left
  · intro wy hSw; (try dsimp only at hSw); go_simp; try with_reducible rfl
  try simp only [Act.put, List.setIfInBounds_toArray, List.set_cons_zero, List.set_cons_succ]
  refine wpAnyH_take (i := 3) (oi := _) (v := ?_) rfl (by kernel_rfl) (by kernel_rfl) (by kernel_rfl) (fun _ _ _ h => h) (Or.inl ⟨by rfl, ?_⟩) (by assumption) ?_
  rotate_left
  · intro wy hSw; (try dsimp only at hSw); go_simp; try with_reducible rfl
  try simp only [Act.put, List.setIfInBounds_toArray, List.set_cons_zero, List.set_cons_succ]
  refine wpAnyH_take (i := 4) (oi := _) (v := ?_) rfl (by kernel_rfl) (by kernel_rfl) (by kernel_rfl) (fun _ _ _ h => h) (Or.inl ⟨by rfl, ?_⟩) (by assumption) ?_
  rotate_left
  · intro wy hSw; (try dsimp only at hSw); go_simp; try with_reducible rfl
  try simp only [Act.put, List.setIfInBounds_toArray, List.set_cons_zero, List.set_cons_succ]
  refine wpAnyH_take (i := 5) (oi := _) (v := ?_) rfl (by kernel_rfl) (by kernel_rfl) (by kernel_rfl) (fun _ _ _ h => h) (Or.inl ⟨by rfl, ?_⟩) (by assumption) ?_
  rotate_left
  · intro wy hSw; (try dsimp only at hSw); go_simp; try with_reducible rfl
  try simp only [Act.put, List.setIfInBounds_toArray, List.set_cons_zero, List.set_cons_succ]
  refine wpAnyH_take (i := 6) (oi := _) (v := ?_) rfl (by kernel_rfl) (by kernel_rfl) (by kernel_rfl) (fun _ _ _ h => h) (Or.inl ⟨by rfl, ?_⟩) (by assumption) ?_
  rotate_left
  · intro wy hSw; (try dsimp only at hSw); go_simp; try with_reducible rfl
  try simp only [Act.put, List.setIfInBounds_toArray, List.set_cons_zero, List.set_cons_succ]
  refine wpAnyH_take (i := 7) (oi := _) (v := ?_) rfl (by kernel_rfl) (by kernel_rfl) (by kernel_rfl) (fun _ _ _ h => h) (Or.inl ⟨by rfl, ?_⟩) (by assumption) ?_
  rotate_left
  · intro wy hSw; (try dsimp only at hSw); go_simp; try with_reducible rfl
  try simp only [Act.put, List.setIfInBounds_toArray, List.set_cons_zero, List.set_cons_succ]
  refine wpAnyH_take (i := 8) (oi := _) (v := ?_) rfl (by kernel_rfl) (by kernel_rfl) (by kernel_rfl) (fun _ _ _ h => h) (Or.inl ⟨by rfl, ?_⟩) (by assumption) ?_
  rotate_left
  · intro wy hSw; (try dsimp only at hSw); go_simp; try with_reducible rfl
  try simp only [Act.put, List.setIfInBounds_toArray, List.set_cons_zero, List.set_cons_succ]
  refine wpAnyH_take (i := 9) (oi := _) (v := ?_) rfl (by kernel_rfl) (by kernel_rfl) (by kernel_rfl) (fun _ _ _ h => h) (Or.inl ⟨by rfl, ?_⟩) (by assumption) ?_
  rotate_left
  · intro wy hSw; (try dsimp only at hSw); go_simp; try with_reducible rfl
  try simp only [Act.put, List.setIfInBounds_toArray, List.set_cons_zero, List.set_cons_succ]
  refine wpAnyH_take (i := 10) (oi := _) (v := ?_) rfl (by kernel_rfl) (by kernel_rfl) (by kernel_rfl) (fun _ _ _ h => h) (Or.inl ⟨by rfl, ?_⟩) (by assumption) ?_
  rotate_left
  · intro wy hSw; (try dsimp only at hSw); go_simp; try with_reducible rfl
  try simp only [Act.put, List.setIfInBounds_toArray, List.set_cons_zero, List.set_cons_succ]
  refine wpAnyH_take (i := 11) (oi := _) (v := ?_) rfl (by kernel_rfl) (by kernel_rfl) (by kernel_rfl) (fun _ _ _ h => h) (Or.inl ⟨by rfl, ?_⟩) (by assumption) ?_
  rotate_left
  · intro wy hSw; (try dsimp only at hSw); go_simp; try with_reducible rfl
  try simp only [Act.put, List.setIfInBounds_toArray, List.set_cons_zero, List.set_cons_succ]
  refine wpAnyH_take (i := 12) (oi := _) (v := ?_) rfl (by kernel_rfl) (by kernel_rfl) (by kernel_rfl) (fun _ _ _ h => h) (Or.inl ⟨by rfl, ?_⟩) (by assumption) ?_
  rotate_left
  · intro wy hSw; (try dsimp only at hSw); go_simp; try with_reducible rfl
  try simp only [Act.put, List.setIfInBounds_toArray, List.set_cons_zero, List.set_cons_succ]
  refine wpAnyH_take (i := 13) (oi := _) (v := ?_) rfl (by kernel_rfl) (by kernel_rfl) (by kernel_rfl) (fun _ _ _ h => h) (Or.inl ⟨by rfl, ?_⟩) (by assumption) ?_
  rotate_left
  · intro wy hSw; (try dsimp only at hSw); go_simp; try with_reducible rfl
  try simp only [Act.put, List.setIfInBounds_toArray, List.set_cons_zero, List.set_cons_succ]
  refine wpAnyH_take (i := 14) (oi := _) (v := ?_) rfl (by kernel_rfl) (by kernel_rfl) (by kernel_rfl) (fun _ _ _ h => h) (Or.inl ⟨by rfl, ?_⟩) (by assumption) ?_
  rotate_left
  · intro wy hSw; (try dsimp only at hSw); go_simp; try with_reducible rfl
  try simp only [Act.put, List.setIfInBounds_toArray, List.set_cons_zero, List.set_cons_succ]
  refine wpAnyH_take (i := 15) (oi := _) (v := ?_) rfl (by kernel_rfl) (by kernel_rfl) (by kernel_rfl) (fun _ _ _ h => h) (Or.inl ⟨by rfl, ?_⟩) (by assumption) ?_
  rotate_left
  · intro wy hSw; (try dsimp only at hSw); go_simp; try with_reducible rfl
  try simp only [Act.put, List.setIfInBounds_toArray, List.set_cons_zero, List.set_cons_succ]
  refine wpAnyH_ready (rs := [16]) (by kernel_rfl) (by simp) ?_
  refine AllReadyH.cons (o := _) rfl (fun K hK => ?_) AllReadyH.nil
  go_simp
  refine hK.out _ _ ?_ (fun hH2 => ?_)
  · go_keep
  clear hK K
  try simp only [Act.put, List.setIfInBounds_toArray, List.set_cons_zero, List.set_cons_succ]
  refine wpAnyH_ready (rs := [17]) (by kernel_rfl) (by simp) ?_
  refine AllReadyH.cons (o := _) rfl (fun K hK => ?_) AllReadyH.nil
  refine step_append_own2 rfl _ _ 37 (by rfl) B 42 _ 8 64 Try.underlying37 info_seg rfl (by decide) ov c.out.length (segs c.out) (by rfl) ((hown.alloc _).drew)
    ⟨wz.heap.size, 0, none⟩ 1 1 [.int .i64 c.frm, .int .i64 c.dst, .int .u32 s.ack, .int .u32 0, .int .i64 4, .int .i64 0, .int .i64 0, .string ⟨#[]⟩] (by rfl) (by rfl) (World.news_of_block (cs := #[.int .i64 c.frm, .int .i64 c.dst, .int .u32 s.ack, .int .u32 0, .int .i64 4, .int .i64 0, .int .i64 0, .string ⟨#[]⟩]) (t := 42) (fr := (0, 0)) (heap_alloc_new wz _)) (by simp [Value.oneCell'])
    (by unfold maxLen; omega) (by omega) (by simp; omega) ?_
  intro A1 c1 wq hown1 hgrow hblk
  refine hK.out _ _ ?_ (fun hHeld => ?_)
  · refine ⟨?_, ?_, ?_, ?_⟩
    · rw [hgrow.cell_far _ (by simp; omega) (Ne.symm hne)]; exact hH2.1
    · rw [hgrow.cell_far _ (by simp; omega) (Ne.symm hne)]; exact hH2.2.1
    · rw [hgrow.cell_far _ (by simp; omega) (Ne.symm hnb)]; exact hH2.2.2.1
    · rw [hgrow.cell_far _ (by simp; omega) (Ne.symm hne)]; exact hH2.2.2.2
  clear hK K
  try simp only [Act.put, List.setIfInBounds_toArray, List.set_cons_zero, List.set_cons_succ]
  refine wpAnyH_take (i := 18) (oi := _) (v := ?_) rfl (by kernel_rfl) (by kernel_rfl) (by kernel_rfl) (fun _ _ _ h => h) (Or.inl ⟨by rfl, ?_⟩) (by assumption) ?_
  rotate_left
  · intro wy hSw; (try dsimp only at hSw); go_simp; try with_reducible rfl
  try simp only [Act.put, List.setIfInBounds_toArray, List.set_cons_zero, List.set_cons_succ]
  refine wpAnyH_take (i := 19) (oi := _) (v := ?_) rfl (by kernel_rfl) (by kernel_rfl) (by kernel_rfl) (fun _ _ _ h => h) (Or.inl ⟨by rfl, ?_⟩) (by assumption) ?_
  rotate_left
  · intro wy hSw; (try dsimp only at hSw); go_simp; try with_reducible rfl
  try simp only [Act.put, List.setIfInBounds_toArray, List.set_cons_zero, List.set_cons_succ]
  refine wpAnyH_done (by kernel_rfl) ?_ _
  change wpList _ _ _ [_] _ _
  have d31 := hHeld.2.2.2
  have f31 : wq.frozen? ⟨g, 30, none⟩ = false := by rw [hgrow.frozen_far _ (by simp; omega) (Ne.symm hne)]; exact ((HIN.out.blk.drewN 1).alloc _).frozen 30
  have HL := Lib.hid hblk
  have HQ := Lib.hid hown1
  have HG := Lib.hid hgrow
  clear hblk hown1 hgrow hH2 hHeld hown hne hnb d0 d1 x3 d30 hS
  go_wp2_with fail
  go_ret
  refine ⟨rfl, CnTo.after HFX.out (fun i hi => HBZ.out ▸ HIX.out i hi) (CnTo.after (HW.out ▸ (Frm.refl _ _).drewN nq) (fun _ h => .inl h) ?_)⟩
  exact CnIn.push (c := c) (s := ⟨c.frm, c.dst, s.ack, 0, 4, 0, 0, []⟩) HIN.out HFP.out ho hB (Frm.grown (((Frm.refl _ _).drewN 1).alloc _) HG.out (fun k hk => .inl (by simp [hk]))) rfl HQ.out (HL.out.imp id fun h => ⟨_, h, by simp⟩)

theorem CN.Ok.opened {c : CN} (h : c.Ok) (k : Int) {s : Sg} (hs : s.Ok) : CN.Ok { c with state := k, window := s.window, seq := s.seq, ack := s.ack } :=
  ⟨h.sb, h.rb, h.clk, h.opt, ⟨hs.w0, hs.w1⟩, h.mss, h.tr, h.left, h.lin⟩

set_option linter.unusedSimpArgs false in
set_option maxRecDepth 100000 in
set_option maxHeartbeats 2000000 in
theorem canswers2f {B g : Nat} {fp : List Nat} {c : CN} (w : World) (s : Sg) (hs : s.Ok) (hst : c.state = 1) (hak : s.ack = (c.iss + 1) % M32) (hcl : c.closed = false) (h : CnIn w B fp g c) :
    Calls Try.prog 62 #[.pointer (some ⟨g, 0, none⟩), .agg #[.int .i64 s.frm, .int .i64 s.dst, .int .u32 s.seq, .int .u32 s.ack, .int .i64 s.flags, .int .i64 s.window, .int .i64 s.mss, .string ⟨s.data.toArray⟩]] w fun e w' => e = .returned (.bool true) ∧ CnTo w w' B fp g { c with state := 2, window := s.window, seq := s.seq, ack := s.ack } := by
  have hbox := boxed_new s h
  have HBOX := Lib.hid hbox
  have HO := Lib.hid h.ok
  clear hbox h
  have b1 : (c.state == 1) = true := by simpa using hst
  have b2 : (s.ack != (c.iss + 1) % 4294967296) = false := by simpa [M32] using hak
  have HCL := Lib.hid hcl
  have HSO := Lib.hid hs
  clear hst hak hcl hs
  go_enter Try.func62, Try.ntmps62
  go_upto_region 1 with fail
  refine wp_world (fun wx => Boxed w wx B fp g w.heap.size c s) HBOX.out ?_
  rintro wx ⟨fp1, hx, hfx, hix, hb, hnb, hBb⟩
  generalize hbz : w.heap.size = b at *
  have x2 : wx.cell? ⟨b, 2, none⟩ = some (.int .u32 s.seq) := hb.cell 2
  have x3 : wx.cell? ⟨b, 3, none⟩ = some (.int .u32 s.ack) := hb.cell 3
  have x5 : wx.cell? ⟨b, 5, none⟩ = some (.int .i64 s.window) := hb.cell 5
  have d7 := hx.c7
  have d9 := hx.c9
  have d11 := hx.c11
  have d13 := hx.c13
  have HX := Lib.hid hx
  have HB := Lib.hid hb
  have HFX := Lib.hid hfx
  have HIX := Lib.hid hix
  have HNB := Lib.hid hnb
  have HBB := Lib.hid hBb
  have HBZ := Lib.hid hbz
  clear hx hb hfx hix hnb hBb hbz
  go_quiet (fail)
  have d14 : wx.cell? ⟨g, 14, none⟩ = some (.bool false) := HX.out.c14.trans (by rw [HCL.out])
  have f7 := HX.out.fz 7
  have f18 := HX.out.fz 18
  have f20 := HX.out.fz 20
  have f21 := HX.out.fz 21
  have d18 := HX.out.c18
  have d20 := HX.out.c20
  have d21 := HX.out.c21
  have hbg : b ≠ g := fun e => HNB.out (e ▸ HX.out.mem)
  go_wp2_with fail
  go_region
  all_goals go_wp2_with fail
  all_goals go_ret
  all_goals refine ⟨rfl, ?_⟩
  all_goals exact CnTo.after HFX.out (fun i hi => HBZ.out ▸ HIX.out i hi) (CnTo.self (c' := { c with state := 2, window := s.window, seq := s.seq, ack := s.ack }) HX.out (fun _ _ _ _ hb => (((((hb.drewN _).set_ 7 _).set_ 18 _).set_ 20 _).set_to 21 _ rfl).drew) (((((((Frm.refl _ _).drewN _).setCell (.inl (by simp)) _).setCell (.inl (by simp)) _).setCell (.inl (by simp)) _).setCell (.inl (by simp)) _).drew) rfl rfl rfl rfl (fun h => h.opened _ HSO.out))

set_option linter.unusedSimpArgs false in
set_option maxRecDepth 100000 in
set_option maxHeartbeats 2000000 in
theorem canswers2t {B g : Nat} {fp : List Nat} {c : CN} (w : World) (s : Sg) (hs : s.Ok) (hst : c.state = 1) (hak : s.ack = (c.iss + 1) % M32) (hcl : c.closed = true) (h : CnIn w B fp g c) :
    Calls Try.prog 62 #[.pointer (some ⟨g, 0, none⟩), .agg #[.int .i64 s.frm, .int .i64 s.dst, .int .u32 s.seq, .int .u32 s.ack, .int .i64 s.flags, .int .i64 s.window, .int .i64 s.mss, .string ⟨s.data.toArray⟩]] w fun e w' => e = .returned (.bool true) ∧ CnTo w w' B fp g { c with state := 3, window := s.window, seq := s.seq, ack := s.ack } := by
  have hbox := boxed_new s h
  have HBOX := Lib.hid hbox
  have HO := Lib.hid h.ok
  clear hbox h
  have b1 : (c.state == 1) = true := by simpa using hst
  have b2 : (s.ack != (c.iss + 1) % 4294967296) = false := by simpa [M32] using hak
  have HCL := Lib.hid hcl
  have HSO := Lib.hid hs
  clear hst hak hcl hs
  go_enter Try.func62, Try.ntmps62
  go_upto_region 1 with fail
  refine wp_world (fun wx => Boxed w wx B fp g w.heap.size c s) HBOX.out ?_
  rintro wx ⟨fp1, hx, hfx, hix, hb, hnb, hBb⟩
  generalize hbz : w.heap.size = b at *
  have x2 : wx.cell? ⟨b, 2, none⟩ = some (.int .u32 s.seq) := hb.cell 2
  have x3 : wx.cell? ⟨b, 3, none⟩ = some (.int .u32 s.ack) := hb.cell 3
  have x5 : wx.cell? ⟨b, 5, none⟩ = some (.int .i64 s.window) := hb.cell 5
  have d7 := hx.c7
  have d9 := hx.c9
  have d11 := hx.c11
  have d13 := hx.c13
  have HX := Lib.hid hx
  have HB := Lib.hid hb
  have HFX := Lib.hid hfx
  have HIX := Lib.hid hix
  have HNB := Lib.hid hnb
  have HBB := Lib.hid hBb
  have HBZ := Lib.hid hbz
  clear hx hb hfx hix hnb hBb hbz
  go_quiet (fail)
  have d14 : wx.cell? ⟨g, 14, none⟩ = some (.bool true) := HX.out.c14.trans (by rw [HCL.out])
  have f7 := HX.out.fz 7
  have f18 := HX.out.fz 18
  have f20 := HX.out.fz 20
  have f21 := HX.out.fz 21
  have d18 := HX.out.c18
  have d20 := HX.out.c20
  have d21 := HX.out.c21
  have hbg : b ≠ g := fun e => HNB.out (e ▸ HX.out.mem)
  go_wp2_with fail
  go_region
  all_goals go_wp2_with fail
  all_goals go_ret
  all_goals refine ⟨rfl, ?_⟩
  all_goals exact CnTo.after HFX.out (fun i hi => HBZ.out ▸ HIX.out i hi) (CnTo.self (c' := { c with state := 3, window := s.window, seq := s.seq, ack := s.ack }) HX.out (fun _ _ _ _ hb => ((((((hb.drewN _).set_ 7 _).set_ 7 _).set_ 18 _).set_ 20 _).set_to 21 _ rfl).drew) ((((((((Frm.refl _ _).drewN _).setCell (.inl (by simp)) _).setCell (.inl (by simp)) _).setCell (.inl (by simp)) _).setCell (.inl (by simp)) _).setCell (.inl (by simp)) _).drew) rfl rfl rfl rfl (fun h => h.opened _ HSO.out))

set_option linter.unusedSimpArgs false in
set_option maxRecDepth 100000 in
set_option maxHeartbeats 2000000 in
theorem canswers3 {B g : Nat} {fp : List Nat} {c : CN} (w : World) (s : Sg) (hst : c.state ≠ 1) (hA : lessB s.ack c.una = true) (h : CnIn w B fp g c) :
    Calls Try.prog 62 #[.pointer (some ⟨g, 0, none⟩), .agg #[.int .i64 s.frm, .int .i64 s.dst, .int .u32 s.seq, .int .u32 s.ack, .int .i64 s.flags, .int .i64 s.window, .int .i64 s.mss, .string ⟨s.data.toArray⟩]] w fun e w' => e = .returned (.bool true) ∧ CnTo w w' B fp g c := by
  have hbox := boxed_new s h
  have HBOX := Lib.hid hbox
  have HO := Lib.hid h.ok
  clear hbox h
  have b1 : (c.state == 1) = false := by simpa using hst
  have hl1 := fun (wx : World) k => less_any s.ack c.una (wx.drewN k)
  rw [hA] at hl1
  have HL1 := Lib.hid hl1
  clear hl1
  have HST := Lib.hid hst
  clear hst hA
  go_enter Try.func62, Try.ntmps62
  go_upto_region 1 with fail
  refine wp_world (fun wx => Boxed w wx B fp g w.heap.size c s) HBOX.out ?_
  rintro wx ⟨fp1, hx, hfx, hix, hb, hnb, hBb⟩
  generalize hbz : w.heap.size = b at *
  have x2 : wx.cell? ⟨b, 2, none⟩ = some (.int .u32 s.seq) := hb.cell 2
  have x3 : wx.cell? ⟨b, 3, none⟩ = some (.int .u32 s.ack) := hb.cell 3
  have x5 : wx.cell? ⟨b, 5, none⟩ = some (.int .i64 s.window) := hb.cell 5
  have d7 := hx.c7
  have d9 := hx.c9
  have d11 := hx.c11
  have d13 := hx.c13
  have HX := Lib.hid hx
  have HB := Lib.hid hb
  have HFX := Lib.hid hfx
  have HIX := Lib.hid hix
  have HNB := Lib.hid hnb
  have HBB := Lib.hid hBb
  have HBZ := Lib.hid hbz
  clear hx hb hfx hix hnb hBb hbz
  go_quiet (fail)
  go_upto_region 9 with fail
  refine wp_world (fun wz => CnIn wz B fp1 g c ∧ Frm fp1 wx wz ∧ Blk wz b 42 s.box) ⟨HX.out.drw (Drw.mk _ _), (Frm.refl _ _).drewN _, HB.out.drewN _⟩ ?_
  rintro wz ⟨hz, hfz, hbz⟩
  clear x2 x3 x5 d7 d9 d11 d13
  have x3 : wz.cell? ⟨b, 3, none⟩ = some (.int .u32 s.ack) := hbz.cell 3
  have d11 := hz.c11
  have d13 := hz.c13
  have HZ := Lib.hid hz
  have HFZ := Lib.hid hfz
  have HBW := Lib.hid hbz
  clear hz hfz hbz
  go_quiet ((go_at_call 63; exact quiet_left (HL1.out _ _)))
  go_wp2_with fail
  go_ret
  exact ⟨rfl, CnTo.after HFX.out (fun i hi => HBZ.out ▸ HIX.out i hi) (CnTo.after (HFZ.out.drewN _) (fun _ h => .inl h) (HZ.out.drw (Drw.mk _ _)).to)⟩

set_option linter.unusedSimpArgs false in
set_option maxRecDepth 100000 in
set_option maxHeartbeats 2000000 in
theorem canswers4 {B g : Nat} {fp : List Nat} {c : CN} (w : World) (s : Sg) (hn : c.out.length ≤ 1000000) (hst : c.state ≠ 1) (hA : lessB s.ack c.una = false) (hB : lessB c.top s.ack = true) (h : CnIn w B fp g c) :
    Calls Try.prog 62 #[.pointer (some ⟨g, 0, none⟩), .agg #[.int .i64 s.frm, .int .i64 s.dst, .int .u32 s.seq, .int .u32 s.ack, .int .i64 s.flags, .int .i64 s.window, .int .i64 s.mss, .string ⟨s.data.toArray⟩]] w fun e w' => e = .returned (.bool false) ∧ CnTo w w' B fp g c.tell := by
  have hbox := boxed_new s h
  have HBOX := Lib.hid hbox
  have HO := Lib.hid h.ok
  clear hbox h
  have b1 : (c.state == 1) = false := by simpa using hst
  have hl1 := fun (wx : World) k => less_any s.ack c.una (wx.drewN k)
  rw [hA] at hl1
  have HL1 := Lib.hid hl1
  clear hl1
  have hl2 := fun (wx : World) k => less_any c.top s.ack (wx.drewN k)
  rw [hB] at hl2
  have HL2 := Lib.hid hl2
  clear hl2
  have HST := Lib.hid hst
  clear hst hA hB
  go_enter Try.func62, Try.ntmps62
  go_upto_region 1 with fail
  refine wp_world (fun wx => Boxed w wx B fp g w.heap.size c s) HBOX.out ?_
  rintro wx ⟨fp1, hx, hfx, hix, hb, hnb, hBb⟩
  generalize hbz : w.heap.size = b at *
  have x2 : wx.cell? ⟨b, 2, none⟩ = some (.int .u32 s.seq) := hb.cell 2
  have x3 : wx.cell? ⟨b, 3, none⟩ = some (.int .u32 s.ack) := hb.cell 3
  have x5 : wx.cell? ⟨b, 5, none⟩ = some (.int .i64 s.window) := hb.cell 5
  have d7 := hx.c7
  have d9 := hx.c9
  have d11 := hx.c11
  have d13 := hx.c13
  have HX := Lib.hid hx
  have HB := Lib.hid hb
  have HFX := Lib.hid hfx
  have HIX := Lib.hid hix
  have HNB := Lib.hid hnb
  have HBB := Lib.hid hBb
  have HBZ := Lib.hid hbz
  clear hx hb hfx hix hnb hBb hbz
  go_quiet (fail)
  go_upto_region 9 with fail
  refine wp_world (fun wz => CnIn wz B fp1 g c ∧ Frm fp1 wx wz ∧ Blk wz b 42 s.box) ⟨HX.out.drw (Drw.mk _ _), (Frm.refl _ _).drewN _, HB.out.drewN _⟩ ?_
  rintro wz ⟨hz, hfz, hbz⟩
  clear x2 x3 x5 d7 d9 d11 d13
  have x3 : wz.cell? ⟨b, 3, none⟩ = some (.int .u32 s.ack) := hbz.cell 3
  have d11 := hz.c11
  have d13 := hz.c13
  have HZ := Lib.hid hz
  have HFZ := Lib.hid hfz
  have HBW := Lib.hid hbz
  clear hz hfz hbz
  go_quiet ((go_at_call 63; exact quiet_left (HL1.out _ _)))
  go_upto_region 10 with fail
  refine wp_world (fun wy => CnIn wy B fp1 g c ∧ Frm fp1 wx wy ∧ Blk wy b 42 s.box) ⟨HZ.out.drw (Drw.mk _ _), HFZ.out.drewN _, HBW.out.drewN _⟩ ?_
  rintro wy ⟨hz, hfz, hbz⟩
  clear x3 d11 d13 HZ HFZ HBW
  have x3 : wy.cell? ⟨b, 3, none⟩ = some (.int .u32 s.ack) := hbz.cell 3
  have d11 := hz.c11
  have d13 := hz.c13
  have HZ := Lib.hid hz
  have HFZ := Lib.hid hfz
  clear hz hfz hbz
  go_quiet ((go_at_call 63; exact quiet_left (HL2.out _ _)))
  go_wp2_with fail
  refine (ctell_in _ hn (HZ.out.drw (Drw.mk _ _))).mono ?_
  rintro e w4 ⟨rfl, hto⟩
  go_wp2_with fail
  go_ret
  exact ⟨rfl, CnTo.after HFX.out (fun i hi => HBZ.out ▸ HIX.out i hi) (CnTo.after (HFZ.out.drewN _) (fun _ h => .inl h) hto)⟩

set_option linter.unusedSimpArgs false in
set_option maxRecDepth 100000 in
set_option maxHeartbeats 2000000 in
theorem canswers5 {B g : Nat} {fp : List Nat} {c : CN} (w : World) (s : Sg) (hst : c.state ≠ 1) (hA : lessB s.ack c.una = false) (hB : lessB c.top s.ack = false) (h : CnIn w B fp g c) :
    Calls Try.prog 62 #[.pointer (some ⟨g, 0, none⟩), .agg #[.int .i64 s.frm, .int .i64 s.dst, .int .u32 s.seq, .int .u32 s.ack, .int .i64 s.flags, .int .i64 s.window, .int .i64 s.mss, .string ⟨s.data.toArray⟩]] w fun e w' => e = .returned (.bool true) ∧ CnTo w w' B fp g c := by
  have hbox := boxed_new s h
  have HBOX := Lib.hid hbox
  have HO := Lib.hid h.ok
  clear hbox h
  have b1 : (c.state == 1) = false := by simpa using hst
  have hl1 := fun (wx : World) k => less_any s.ack c.una (wx.drewN k)
  rw [hA] at hl1
  have HL1 := Lib.hid hl1
  clear hl1
  have hl2 := fun (wx : World) k => less_any c.top s.ack (wx.drewN k)
  rw [hB] at hl2
  have HL2 := Lib.hid hl2
  clear hl2
  have HST := Lib.hid hst
  clear hst hA hB
  go_enter Try.func62, Try.ntmps62
  go_upto_region 1 with fail
  refine wp_world (fun wx => Boxed w wx B fp g w.heap.size c s) HBOX.out ?_
  rintro wx ⟨fp1, hx, hfx, hix, hb, hnb, hBb⟩
  generalize hbz : w.heap.size = b at *
  have x2 : wx.cell? ⟨b, 2, none⟩ = some (.int .u32 s.seq) := hb.cell 2
  have x3 : wx.cell? ⟨b, 3, none⟩ = some (.int .u32 s.ack) := hb.cell 3
  have x5 : wx.cell? ⟨b, 5, none⟩ = some (.int .i64 s.window) := hb.cell 5
  have d7 := hx.c7
  have d9 := hx.c9
  have d11 := hx.c11
  have d13 := hx.c13
  have HX := Lib.hid hx
  have HB := Lib.hid hb
  have HFX := Lib.hid hfx
  have HIX := Lib.hid hix
  have HNB := Lib.hid hnb
  have HBB := Lib.hid hBb
  have HBZ := Lib.hid hbz
  clear hx hb hfx hix hnb hBb hbz
  go_quiet (fail)
  go_upto_region 9 with fail
  refine wp_world (fun wz => CnIn wz B fp1 g c ∧ Frm fp1 wx wz ∧ Blk wz b 42 s.box) ⟨HX.out.drw (Drw.mk _ _), (Frm.refl _ _).drewN _, HB.out.drewN _⟩ ?_
  rintro wz ⟨hz, hfz, hbz⟩
  clear x2 x3 x5 d7 d9 d11 d13
  have x3 : wz.cell? ⟨b, 3, none⟩ = some (.int .u32 s.ack) := hbz.cell 3
  have d11 := hz.c11
  have d13 := hz.c13
  have HZ := Lib.hid hz
  have HFZ := Lib.hid hfz
  have HBW := Lib.hid hbz
  clear hz hfz hbz
  go_quiet ((go_at_call 63; exact quiet_left (HL1.out _ _)))
  go_upto_region 10 with fail
  refine wp_world (fun wy => CnIn wy B fp1 g c ∧ Frm fp1 wx wy ∧ Blk wy b 42 s.box) ⟨HZ.out.drw (Drw.mk _ _), HFZ.out.drewN _, HBW.out.drewN _⟩ ?_
  rintro wy ⟨hz, hfz, hbz⟩
  clear x3 d11 d13 HZ HFZ HBW
  have x3 : wy.cell? ⟨b, 3, none⟩ = some (.int .u32 s.ack) := hbz.cell 3
  have d11 := hz.c11
  have d13 := hz.c13
  have HZ := Lib.hid hz
  have HFZ := Lib.hid hfz
  clear hz hfz hbz
  go_quiet ((go_at_call 63; exact quiet_left (HL2.out _ _)))
  go_wp2_with fail
  go_ret
  exact ⟨rfl, CnTo.after HFX.out (fun i hi => HBZ.out ▸ HIX.out i hi) (CnTo.after (HFZ.out.drewN _) (fun _ h => .inl h) (HZ.out.drw (Drw.mk _ _)).to)⟩

theorem canswers_in {B g : Nat} {fp : List Nat} {c : CN} (w : World) (s : Sg) (hn : c.out.length ≤ 1000000) (hs : s.Ok) (h : CnIn w B fp g c) :
    Calls Try.prog 62 #[.pointer (some ⟨g, 0, none⟩), .agg #[.int .i64 s.frm, .int .i64 s.dst, .int .u32 s.seq, .int .u32 s.ack, .int .i64 s.flags, .int .i64 s.window, .int .i64 s.mss, .string ⟨s.data.toArray⟩]] w fun e w' => e = .returned (.bool (c.answers s).1) ∧ CnTo w w' B fp g (c.answers s).2 := by
  unfold CN.answers
  by_cases hst : c.state = 1
  · rw [if_pos hst]
    by_cases hak : s.ack = (c.iss + 1) % M32
    · rw [if_pos hak]
      by_cases hcl : c.closed = true
      · rw [if_pos hcl]
        exact canswers2t w s hs hst hak hcl h
      · rw [if_neg hcl]
        exact canswers2f w s hs hst hak (by simpa using hcl) h
    · rw [if_neg hak]
      exact canswers1 w s hn hst hak h
  · rw [if_neg hst]
    rcases hA : lessB s.ack c.una with _ | _
    · rw [if_neg (by simp)]
      rcases hB : lessB c.top s.ack with _ | _
      · exact canswers5 w s hst hA hB h
      · exact canswers4 w s hn hst hA hB h
    · exact canswers3 w s hst hA h

end Go.Proofs.Ytpmlojgngcllfaa
