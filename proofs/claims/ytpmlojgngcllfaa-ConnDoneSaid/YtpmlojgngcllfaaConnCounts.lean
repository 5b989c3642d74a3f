/- The contracts of package conn: counts. -/
import Derived.Test.YtpmlojgngcllfaaConnAnswers
namespace Go.Proofs.Ytpmlojgngcllfaa
open Go.RowKit Go

theorem sg_len {s : Sg} (h : s.Ok) : 0 ≤ s.len ∧ s.len ≤ 1000002 := by
  have := h.dl
  unfold Sg.len
  split <;> split <;> omega

set_option maxRecDepth 100000 in
set_option maxHeartbeats 2000000 in
theorem ccounts1 {B g : Nat} {fp : List Nat} {c : CN} (w : World) (s : Sg) (hs : s.Ok) (hfit : c.fits s = false) (hR : hasF s.flags 4 = true) (h : CnIn w B fp g c) :
    Calls Try.prog 42 #[.pointer (some ⟨g, 0, none⟩), .agg #[.int .i64 s.frm, .int .i64 s.dst, .int .u32 s.seq, .int .u32 s.ack, .int .i64 s.flags, .int .i64 s.window, .int .i64 s.mss, .string ⟨s.data.toArray⟩]] w fun e w' => e = .returned (.bool false) ∧ CnTo w w' B fp g c := by
  have hbox := boxed_new s h
  have HBOX := Lib.hid hbox
  have hl0 : 0 ≤ s.len ∧ s.len ≤ 1000002 := sg_len hs
  obtain ⟨M, hM⟩ : ∃ M, (if ((c.rb.win : Nat) : Int) < 1 then 1 else ((c.rb.win : Nat) : Int)) = M := ⟨_, rfl⟩
  have hfit2 : mayB s.seq s.len c.want M = false := by
    rw [← hfit, ← hM]
    unfold CN.fits
    congr 1
    split <;> omega
  have hmay := fun (w : World) => may_any s.seq s.len c.want M w (by omega) (by omega)
  rw [hfit2] at hmay
  have HMAY := Lib.hid hmay
  have HS := Lib.hid hs
  have hsd := hs.dl
  clear hbox h hl0 hfit hfit2 hmay hs
  obtain ⟨a4, b4⟩ := hasF_true hR
  clear hR
  go_enter Try.func42, Try.ntmps42
  go_upto_region 1 with fail
  refine wp_world (fun wx => Boxed w wx B fp g w.heap.size c s) HBOX.out ?_
  rintro wx ⟨fp1, hx, hfx, hix, hb, hnb, hBb⟩
  generalize hbz : w.heap.size = b at *
  have hxd := hx.drw (Drw.mk wx 1)
  have hbd := hb.drewN 1
  have HX := Lib.hid hxd
  have HB := Lib.hid hbd
  have HFX := Lib.hid hfx
  have HIX := Lib.hid hix
  have HNB := Lib.hid hnb
  have HBB := Lib.hid hBb
  have HBZ := Lib.hid hbz
  obtain ⟨gs, gi, gd, gh, gc, rv, ov, hin, -, ho, -⟩ := hx
  have hin0 : ∀ wy, Frm [] wx wy → wy.cell? ⟨g, 16, none⟩ = some (.pointer (some ⟨gi, 0, none⟩)) ∧ RbIn wy B gi gd gh rv c.rb := fun wy hf => ⟨(hin.blk.frm hf (by simp)).cell 16, hin.rb.frm hf (by simp) (by simp) (by simp) (by simp)⟩
  have hS0 : ∀ wy, Frm [] wx wy → ((fun w' => w'.cell? ⟨b, 0, none⟩ = some (.int .i64 s.frm) ∧ w'.cell? ⟨b, 1, none⟩ = some (.int .i64 s.dst) ∧ w'.cell? ⟨b, 2, none⟩ = some (.int .u32 s.seq) ∧ w'.cell? ⟨b, 3, none⟩ = some (.int .u32 s.ack) ∧ w'.cell? ⟨b, 4, none⟩ = some (.int .i64 s.flags) ∧ w'.cell? ⟨b, 5, none⟩ = some (.int .i64 s.window) ∧ w'.cell? ⟨b, 6, none⟩ = some (.int .i64 s.mss) ∧ w'.cell? ⟨b, 7, none⟩ = some (.string ⟨s.data.toArray⟩) ∧ w'.cell? ⟨g, 16, none⟩ = some (.pointer (some ⟨gi, 0, none⟩)))) wy := fun wy hf => ⟨(hb.frm hf (by simp)).cell 0, (hb.frm hf (by simp)).cell 1, (hb.frm hf (by simp)).cell 2, (hb.frm hf (by simp)).cell 3, (hb.frm hf (by simp)).cell 4, (hb.frm hf (by simp)).cell 5, (hb.frm hf (by simp)).cell 6, (hb.frm hf (by simp)).cell 7, (hin0 wy hf).1⟩
  have HS0 := Lib.hid hS0
  have HIN := Lib.hid hin0
  have HRB := Lib.hid ho.rb
  clear hxd hbd hfx hix hnb hBb hbz hin hin0 hS0 hb ho
  go_region_held3 (fun w' => w'.cell? ⟨b, 0, none⟩ = some (.int .i64 s.frm) ∧ w'.cell? ⟨b, 1, none⟩ = some (.int .i64 s.dst) ∧ w'.cell? ⟨b, 2, none⟩ = some (.int .u32 s.seq) ∧ w'.cell? ⟨b, 3, none⟩ = some (.int .u32 s.ack) ∧ w'.cell? ⟨b, 4, none⟩ = some (.int .i64 s.flags) ∧ w'.cell? ⟨b, 5, none⟩ = some (.int .i64 s.window) ∧ w'.cell? ⟨b, 6, none⟩ = some (.int .i64 s.mss) ∧ w'.cell? ⟨b, 7, none⟩ = some (.string ⟨s.data.toArray⟩) ∧ w'.cell? ⟨g, 16, none⟩ = some (.pointer (some ⟨gi, 0, none⟩)))
    (first | exact HS0.out _ ((Frm.refl _ _).drewN 1) | exact HS0.out _ hf2 | exact HS0.out _ hf3)
    (first
      | (go_at_call 41; refine (len_any s _ hsd).mono ?_; rintro e w2 ⟨rfl, hfa⟩; have hf2 := ((Frm.refl [] wx).drewN 1).next0 hfa; have hx2 := HX.out.frm hfa (by simp); have hb2 := HB.out.frm hfa (by simp); have hr2 := (HIN.out _ hf2).2)
      | (go_at_call 61; refine (cwant_in _ hx2).mono ?_; rintro e w' ⟨rfl, rfl⟩)
      | (go_at_call 38; refine (rwindow_in _ HRB.out hr2).mono ?_; rintro e w3 ⟨rfl, hd3⟩; have hf3 := hd3.next hf2; have hx3 := hx2.drw hd3; have hb3 := hd3.blk hb2)
      | (go_at_call 60; refine (HMAY.out _).mono ?_; rintro e w' ⟨rfl, rfl⟩))
  go_upto_region 2 with fail
  refine wp_world (fun wz => CnIn wz B fp1 g c ∧ Frm fp1 wx wz ∧ Blk wz b 42 s.box) ⟨hx3, hf3.mono (by simp), hb3⟩ ?_
  clear hf2 hfa hx2 hb2 hr2 hd3 hf3 hx3 hb3
  rintro wz ⟨hz, hfz, hbw⟩
  have x2 : wz.cell? ⟨b, 2, none⟩ = some (.int .u32 s.seq) := hbw.cell 2
  have x4 : wz.cell? ⟨b, 4, none⟩ = some (.int .i64 s.flags) := hbw.cell 4
  have HZ := Lib.hid hz
  have HFZ := Lib.hid hfz
  have HBW := Lib.hid hbw
  clear hz hfz hbw
  go_wp2_with fail
  go_ret
  exact ⟨rfl, CnTo.after HFX.out (fun i hi => HBZ.out ▸ HIX.out i hi) (CnTo.after HFZ.out (fun _ h => .inl h) HZ.out.to)⟩

set_option maxRecDepth 100000 in
set_option maxHeartbeats 2000000 in
theorem ccounts2 {B g : Nat} {fp : List Nat} {c : CN} (w : World) (s : Sg) (hs : s.Ok) (hfit : c.fits s = false) (hn : c.out.length ≤ 1000000) (hR : hasF s.flags 4 = false) (h : CnIn w B fp g c) :
    Calls Try.prog 42 #[.pointer (some ⟨g, 0, none⟩), .agg #[.int .i64 s.frm, .int .i64 s.dst, .int .u32 s.seq, .int .u32 s.ack, .int .i64 s.flags, .int .i64 s.window, .int .i64 s.mss, .string ⟨s.data.toArray⟩]] w fun e w' => e = .returned (.bool false) ∧ CnTo w w' B fp g c.tell := by
  have hbox := boxed_new s h
  have HBOX := Lib.hid hbox
  have hl0 : 0 ≤ s.len ∧ s.len ≤ 1000002 := sg_len hs
  obtain ⟨M, hM⟩ : ∃ M, (if ((c.rb.win : Nat) : Int) < 1 then 1 else ((c.rb.win : Nat) : Int)) = M := ⟨_, rfl⟩
  have hfit2 : mayB s.seq s.len c.want M = false := by
    rw [← hfit, ← hM]
    unfold CN.fits
    congr 1
    split <;> omega
  have hmay := fun (w : World) => may_any s.seq s.len c.want M w (by omega) (by omega)
  rw [hfit2] at hmay
  have HMAY := Lib.hid hmay
  have HS := Lib.hid hs
  have hsd := hs.dl
  clear hbox h hl0 hfit hfit2 hmay hs
  obtain ⟨a4, b4⟩ := hasF_false hR
  clear hR
  go_enter Try.func42, Try.ntmps42
  go_upto_region 1 with fail
  refine wp_world (fun wx => Boxed w wx B fp g w.heap.size c s) HBOX.out ?_
  rintro wx ⟨fp1, hx, hfx, hix, hb, hnb, hBb⟩
  generalize hbz : w.heap.size = b at *
  have hxd := hx.drw (Drw.mk wx 1)
  have hbd := hb.drewN 1
  have HX := Lib.hid hxd
  have HB := Lib.hid hbd
  have HFX := Lib.hid hfx
  have HIX := Lib.hid hix
  have HNB := Lib.hid hnb
  have HBB := Lib.hid hBb
  have HBZ := Lib.hid hbz
  obtain ⟨gs, gi, gd, gh, gc, rv, ov, hin, -, ho, -⟩ := hx
  have hin0 : ∀ wy, Frm [] wx wy → wy.cell? ⟨g, 16, none⟩ = some (.pointer (some ⟨gi, 0, none⟩)) ∧ RbIn wy B gi gd gh rv c.rb := fun wy hf => ⟨(hin.blk.frm hf (by simp)).cell 16, hin.rb.frm hf (by simp) (by simp) (by simp) (by simp)⟩
  have hS0 : ∀ wy, Frm [] wx wy → ((fun w' => w'.cell? ⟨b, 0, none⟩ = some (.int .i64 s.frm) ∧ w'.cell? ⟨b, 1, none⟩ = some (.int .i64 s.dst) ∧ w'.cell? ⟨b, 2, none⟩ = some (.int .u32 s.seq) ∧ w'.cell? ⟨b, 3, none⟩ = some (.int .u32 s.ack) ∧ w'.cell? ⟨b, 4, none⟩ = some (.int .i64 s.flags) ∧ w'.cell? ⟨b, 5, none⟩ = some (.int .i64 s.window) ∧ w'.cell? ⟨b, 6, none⟩ = some (.int .i64 s.mss) ∧ w'.cell? ⟨b, 7, none⟩ = some (.string ⟨s.data.toArray⟩) ∧ w'.cell? ⟨g, 16, none⟩ = some (.pointer (some ⟨gi, 0, none⟩)))) wy := fun wy hf => ⟨(hb.frm hf (by simp)).cell 0, (hb.frm hf (by simp)).cell 1, (hb.frm hf (by simp)).cell 2, (hb.frm hf (by simp)).cell 3, (hb.frm hf (by simp)).cell 4, (hb.frm hf (by simp)).cell 5, (hb.frm hf (by simp)).cell 6, (hb.frm hf (by simp)).cell 7, (hin0 wy hf).1⟩
  have HS0 := Lib.hid hS0
  have HIN := Lib.hid hin0
  have HRB := Lib.hid ho.rb
  clear hxd hbd hfx hix hnb hBb hbz hin hin0 hS0 hb ho
  go_region_held3 (fun w' => w'.cell? ⟨b, 0, none⟩ = some (.int .i64 s.frm) ∧ w'.cell? ⟨b, 1, none⟩ = some (.int .i64 s.dst) ∧ w'.cell? ⟨b, 2, none⟩ = some (.int .u32 s.seq) ∧ w'.cell? ⟨b, 3, none⟩ = some (.int .u32 s.ack) ∧ w'.cell? ⟨b, 4, none⟩ = some (.int .i64 s.flags) ∧ w'.cell? ⟨b, 5, none⟩ = some (.int .i64 s.window) ∧ w'.cell? ⟨b, 6, none⟩ = some (.int .i64 s.mss) ∧ w'.cell? ⟨b, 7, none⟩ = some (.string ⟨s.data.toArray⟩) ∧ w'.cell? ⟨g, 16, none⟩ = some (.pointer (some ⟨gi, 0, none⟩)))
    (first | exact HS0.out _ ((Frm.refl _ _).drewN 1) | exact HS0.out _ hf2 | exact HS0.out _ hf3)
    (first
      | (go_at_call 41; refine (len_any s _ hsd).mono ?_; rintro e w2 ⟨rfl, hfa⟩; have hf2 := ((Frm.refl [] wx).drewN 1).next0 hfa; have hx2 := HX.out.frm hfa (by simp); have hb2 := HB.out.frm hfa (by simp); have hr2 := (HIN.out _ hf2).2)
      | (go_at_call 61; refine (cwant_in _ hx2).mono ?_; rintro e w' ⟨rfl, rfl⟩)
      | (go_at_call 38; refine (rwindow_in _ HRB.out hr2).mono ?_; rintro e w3 ⟨rfl, hd3⟩; have hf3 := hd3.next hf2; have hx3 := hx2.drw hd3; have hb3 := hd3.blk hb2)
      | (go_at_call 60; refine (HMAY.out _).mono ?_; rintro e w' ⟨rfl, rfl⟩))
  go_upto_region 2 with fail
  refine wp_world (fun wz => CnIn wz B fp1 g c ∧ Frm fp1 wx wz ∧ Blk wz b 42 s.box) ⟨hx3, hf3.mono (by simp), hb3⟩ ?_
  clear hf2 hfa hx2 hb2 hr2 hd3 hf3 hx3 hb3
  rintro wz ⟨hz, hfz, hbw⟩
  have x2 : wz.cell? ⟨b, 2, none⟩ = some (.int .u32 s.seq) := hbw.cell 2
  have x4 : wz.cell? ⟨b, 4, none⟩ = some (.int .i64 s.flags) := hbw.cell 4
  have HZ := Lib.hid hz
  have HFZ := Lib.hid hfz
  have HBW := Lib.hid hbw
  clear hz hfz hbw
  go_wp2_with fail
  refine (ctell_in _ hn (HZ.out)).mono ?_
  rintro e w4 ⟨rfl, hto⟩
  go_wp2_with fail
  go_ret
  exact ⟨rfl, CnTo.after HFX.out (fun i hi => HBZ.out ▸ HIX.out i hi) (CnTo.after HFZ.out (fun _ h => .inl h) hto)⟩

set_option maxRecDepth 100000 in
set_option maxHeartbeats 2000000 in
theorem ccounts3 {B g : Nat} {fp : List Nat} {c : CN} (w : World) (s : Sg) (hs : s.Ok) (hfit : c.fits s = true) (hR : hasF s.flags 4 = true) (hw : s.seq = c.want) (h : CnIn w B fp g c) :
    Calls Try.prog 42 #[.pointer (some ⟨g, 0, none⟩), .agg #[.int .i64 s.frm, .int .i64 s.dst, .int .u32 s.seq, .int .u32 s.ack, .int .i64 s.flags, .int .i64 s.window, .int .i64 s.mss, .string ⟨s.data.toArray⟩]] w fun e w' => e = .returned (.bool false) ∧ CnTo w w' B fp g (c.finish true) := by
  have hbox := boxed_new s h
  have HBOX := Lib.hid hbox
  have hl0 : 0 ≤ s.len ∧ s.len ≤ 1000002 := sg_len hs
  obtain ⟨M, hM⟩ : ∃ M, (if ((c.rb.win : Nat) : Int) < 1 then 1 else ((c.rb.win : Nat) : Int)) = M := ⟨_, rfl⟩
  have hfit2 : mayB s.seq s.len c.want M = true := by
    rw [← hfit, ← hM]
    unfold CN.fits
    congr 1
    split <;> omega
  have hmay := fun (w : World) => may_any s.seq s.len c.want M w (by omega) (by omega)
  rw [hfit2] at hmay
  have HMAY := Lib.hid hmay
  have HS := Lib.hid hs
  have hsd := hs.dl
  clear hbox h hl0 hfit hfit2 hmay hs
  obtain ⟨a4, b4⟩ := hasF_true hR
  clear hR
  have bw : (s.seq == c.want) = true := by simpa using hw
  clear hw
  go_enter Try.func42, Try.ntmps42
  go_upto_region 1 with fail
  refine wp_world (fun wx => Boxed w wx B fp g w.heap.size c s) HBOX.out ?_
  rintro wx ⟨fp1, hx, hfx, hix, hb, hnb, hBb⟩
  generalize hbz : w.heap.size = b at *
  have hxd := hx.drw (Drw.mk wx 1)
  have hbd := hb.drewN 1
  have HX := Lib.hid hxd
  have HB := Lib.hid hbd
  have HFX := Lib.hid hfx
  have HIX := Lib.hid hix
  have HNB := Lib.hid hnb
  have HBB := Lib.hid hBb
  have HBZ := Lib.hid hbz
  obtain ⟨gs, gi, gd, gh, gc, rv, ov, hin, -, ho, -⟩ := hx
  have hin0 : ∀ wy, Frm [] wx wy → wy.cell? ⟨g, 16, none⟩ = some (.pointer (some ⟨gi, 0, none⟩)) ∧ RbIn wy B gi gd gh rv c.rb := fun wy hf => ⟨(hin.blk.frm hf (by simp)).cell 16, hin.rb.frm hf (by simp) (by simp) (by simp) (by simp)⟩
  have hS0 : ∀ wy, Frm [] wx wy → ((fun w' => w'.cell? ⟨b, 0, none⟩ = some (.int .i64 s.frm) ∧ w'.cell? ⟨b, 1, none⟩ = some (.int .i64 s.dst) ∧ w'.cell? ⟨b, 2, none⟩ = some (.int .u32 s.seq) ∧ w'.cell? ⟨b, 3, none⟩ = some (.int .u32 s.ack) ∧ w'.cell? ⟨b, 4, none⟩ = some (.int .i64 s.flags) ∧ w'.cell? ⟨b, 5, none⟩ = some (.int .i64 s.window) ∧ w'.cell? ⟨b, 6, none⟩ = some (.int .i64 s.mss) ∧ w'.cell? ⟨b, 7, none⟩ = some (.string ⟨s.data.toArray⟩) ∧ w'.cell? ⟨g, 16, none⟩ = some (.pointer (some ⟨gi, 0, none⟩)))) wy := fun wy hf => ⟨(hb.frm hf (by simp)).cell 0, (hb.frm hf (by simp)).cell 1, (hb.frm hf (by simp)).cell 2, (hb.frm hf (by simp)).cell 3, (hb.frm hf (by simp)).cell 4, (hb.frm hf (by simp)).cell 5, (hb.frm hf (by simp)).cell 6, (hb.frm hf (by simp)).cell 7, (hin0 wy hf).1⟩
  have HS0 := Lib.hid hS0
  have HIN := Lib.hid hin0
  have HRB := Lib.hid ho.rb
  clear hxd hbd hfx hix hnb hBb hbz hin hin0 hS0 hb ho
  go_region_held3 (fun w' => w'.cell? ⟨b, 0, none⟩ = some (.int .i64 s.frm) ∧ w'.cell? ⟨b, 1, none⟩ = some (.int .i64 s.dst) ∧ w'.cell? ⟨b, 2, none⟩ = some (.int .u32 s.seq) ∧ w'.cell? ⟨b, 3, none⟩ = some (.int .u32 s.ack) ∧ w'.cell? ⟨b, 4, none⟩ = some (.int .i64 s.flags) ∧ w'.cell? ⟨b, 5, none⟩ = some (.int .i64 s.window) ∧ w'.cell? ⟨b, 6, none⟩ = some (.int .i64 s.mss) ∧ w'.cell? ⟨b, 7, none⟩ = some (.string ⟨s.data.toArray⟩) ∧ w'.cell? ⟨g, 16, none⟩ = some (.pointer (some ⟨gi, 0, none⟩)))
    (first | exact HS0.out _ ((Frm.refl _ _).drewN 1) | exact HS0.out _ hf2 | exact HS0.out _ hf3)
    (first
      | (go_at_call 41; refine (len_any s _ hsd).mono ?_; rintro e w2 ⟨rfl, hfa⟩; have hf2 := ((Frm.refl [] wx).drewN 1).next0 hfa; have hx2 := HX.out.frm hfa (by simp); have hb2 := HB.out.frm hfa (by simp); have hr2 := (HIN.out _ hf2).2)
      | (go_at_call 61; refine (cwant_in _ hx2).mono ?_; rintro e w' ⟨rfl, rfl⟩)
      | (go_at_call 38; refine (rwindow_in _ HRB.out hr2).mono ?_; rintro e w3 ⟨rfl, hd3⟩; have hf3 := hd3.next hf2; have hx3 := hx2.drw hd3; have hb3 := hd3.blk hb2)
      | (go_at_call 60; refine (HMAY.out _).mono ?_; rintro e w' ⟨rfl, rfl⟩))
  go_upto_region 4 with fail
  refine wp_world (fun wz => CnIn wz B fp1 g c ∧ Frm fp1 wx wz ∧ Blk wz b 42 s.box) ⟨hx3, hf3.mono (by simp), hb3⟩ ?_
  clear hf2 hfa hx2 hb2 hr2 hd3 hf3 hx3 hb3
  rintro wz ⟨hz, hfz, hbw⟩
  have x2 : wz.cell? ⟨b, 2, none⟩ = some (.int .u32 s.seq) := hbw.cell 2
  have x4 : wz.cell? ⟨b, 4, none⟩ = some (.int .i64 s.flags) := hbw.cell 4
  have HZ := Lib.hid hz
  have HFZ := Lib.hid hfz
  have HBW := Lib.hid hbw
  clear hz hfz hbw
  go_wp2_with fail
  have hwt := fun k => cwant_in (wz.drewN k) (HZ.out.drw (Drw.mk wz k))
  have HWT := Lib.hid hwt
  clear hwt
  go_quiet ((go_at_call 61; exact quiet_left (HWT.out _)))
  go_wp2_with fail
  refine (cend_in _ true (HZ.out.drw (Drw.mk _ _))).mono ?_
  rintro e w4 ⟨rfl, hto⟩
  go_wp2_with fail
  go_ret
  exact ⟨rfl, CnTo.after HFX.out (fun i hi => HBZ.out ▸ HIX.out i hi) (CnTo.after HFZ.out (fun _ h => .inl h) (CnTo.after ((Frm.refl _ _).drewN _) (fun _ h => .inl h)  hto))⟩

set_option maxRecDepth 100000 in
set_option maxHeartbeats 2000000 in
theorem ccounts4a {B g : Nat} {fp : List Nat} {c : CN} (w : World) (s : Sg) (hs : s.Ok) (hfit : c.fits s = true) (hn : c.out.length ≤ 1000000) (hR : hasF s.flags 4 = true) (hw : s.seq ≠ c.want) (h6 : hasF s.flags 6 = true) (h : CnIn w B fp g c) :
    Calls Try.prog 42 #[.pointer (some ⟨g, 0, none⟩), .agg #[.int .i64 s.frm, .int .i64 s.dst, .int .u32 s.seq, .int .u32 s.ack, .int .i64 s.flags, .int .i64 s.window, .int .i64 s.mss, .string ⟨s.data.toArray⟩]] w fun e w' => e = .returned (.bool false) ∧ CnTo w w' B fp g c.tell := by
  have hbox := boxed_new s h
  have HBOX := Lib.hid hbox
  have hl0 : 0 ≤ s.len ∧ s.len ≤ 1000002 := sg_len hs
  obtain ⟨M, hM⟩ : ∃ M, (if ((c.rb.win : Nat) : Int) < 1 then 1 else ((c.rb.win : Nat) : Int)) = M := ⟨_, rfl⟩
  have hfit2 : mayB s.seq s.len c.want M = true := by
    rw [← hfit, ← hM]
    unfold CN.fits
    congr 1
    split <;> omega
  have hmay := fun (w : World) => may_any s.seq s.len c.want M w (by omega) (by omega)
  rw [hfit2] at hmay
  have HMAY := Lib.hid hmay
  have HS := Lib.hid hs
  have hsd := hs.dl
  clear hbox h hl0 hfit hfit2 hmay hs
  obtain ⟨a4, b4⟩ := hasF_true hR
  clear hR
  have bw : (s.seq == c.want) = false := by simpa using hw
  clear hw
  obtain ⟨a6, b6⟩ := hasF_true h6
  clear h6
  go_enter Try.func42, Try.ntmps42
  go_upto_region 1 with fail
  refine wp_world (fun wx => Boxed w wx B fp g w.heap.size c s) HBOX.out ?_
  rintro wx ⟨fp1, hx, hfx, hix, hb, hnb, hBb⟩
  generalize hbz : w.heap.size = b at *
  have hxd := hx.drw (Drw.mk wx 1)
  have hbd := hb.drewN 1
  have HX := Lib.hid hxd
  have HB := Lib.hid hbd
  have HFX := Lib.hid hfx
  have HIX := Lib.hid hix
  have HNB := Lib.hid hnb
  have HBB := Lib.hid hBb
  have HBZ := Lib.hid hbz
  obtain ⟨gs, gi, gd, gh, gc, rv, ov, hin, -, ho, -⟩ := hx
  have hin0 : ∀ wy, Frm [] wx wy → wy.cell? ⟨g, 16, none⟩ = some (.pointer (some ⟨gi, 0, none⟩)) ∧ RbIn wy B gi gd gh rv c.rb := fun wy hf => ⟨(hin.blk.frm hf (by simp)).cell 16, hin.rb.frm hf (by simp) (by simp) (by simp) (by simp)⟩
  have hS0 : ∀ wy, Frm [] wx wy → ((fun w' => w'.cell? ⟨b, 0, none⟩ = some (.int .i64 s.frm) ∧ w'.cell? ⟨b, 1, none⟩ = some (.int .i64 s.dst) ∧ w'.cell? ⟨b, 2, none⟩ = some (.int .u32 s.seq) ∧ w'.cell? ⟨b, 3, none⟩ = some (.int .u32 s.ack) ∧ w'.cell? ⟨b, 4, none⟩ = some (.int .i64 s.flags) ∧ w'.cell? ⟨b, 5, none⟩ = some (.int .i64 s.window) ∧ w'.cell? ⟨b, 6, none⟩ = some (.int .i64 s.mss) ∧ w'.cell? ⟨b, 7, none⟩ = some (.string ⟨s.data.toArray⟩) ∧ w'.cell? ⟨g, 16, none⟩ = some (.pointer (some ⟨gi, 0, none⟩)))) wy := fun wy hf => ⟨(hb.frm hf (by simp)).cell 0, (hb.frm hf (by simp)).cell 1, (hb.frm hf (by simp)).cell 2, (hb.frm hf (by simp)).cell 3, (hb.frm hf (by simp)).cell 4, (hb.frm hf (by simp)).cell 5, (hb.frm hf (by simp)).cell 6, (hb.frm hf (by simp)).cell 7, (hin0 wy hf).1⟩
  have HS0 := Lib.hid hS0
  have HIN := Lib.hid hin0
  have HRB := Lib.hid ho.rb
  clear hxd hbd hfx hix hnb hBb hbz hin hin0 hS0 hb ho
  go_region_held3 (fun w' => w'.cell? ⟨b, 0, none⟩ = some (.int .i64 s.frm) ∧ w'.cell? ⟨b, 1, none⟩ = some (.int .i64 s.dst) ∧ w'.cell? ⟨b, 2, none⟩ = some (.int .u32 s.seq) ∧ w'.cell? ⟨b, 3, none⟩ = some (.int .u32 s.ack) ∧ w'.cell? ⟨b, 4, none⟩ = some (.int .i64 s.flags) ∧ w'.cell? ⟨b, 5, none⟩ = some (.int .i64 s.window) ∧ w'.cell? ⟨b, 6, none⟩ = some (.int .i64 s.mss) ∧ w'.cell? ⟨b, 7, none⟩ = some (.string ⟨s.data.toArray⟩) ∧ w'.cell? ⟨g, 16, none⟩ = some (.pointer (some ⟨gi, 0, none⟩)))
    (first | exact HS0.out _ ((Frm.refl _ _).drewN 1) | exact HS0.out _ hf2 | exact HS0.out _ hf3)
    (first
      | (go_at_call 41; refine (len_any s _ hsd).mono ?_; rintro e w2 ⟨rfl, hfa⟩; have hf2 := ((Frm.refl [] wx).drewN 1).next0 hfa; have hx2 := HX.out.frm hfa (by simp); have hb2 := HB.out.frm hfa (by simp); have hr2 := (HIN.out _ hf2).2)
      | (go_at_call 61; refine (cwant_in _ hx2).mono ?_; rintro e w' ⟨rfl, rfl⟩)
      | (go_at_call 38; refine (rwindow_in _ HRB.out hr2).mono ?_; rintro e w3 ⟨rfl, hd3⟩; have hf3 := hd3.next hf2; have hx3 := hx2.drw hd3; have hb3 := hd3.blk hb2)
      | (go_at_call 60; refine (HMAY.out _).mono ?_; rintro e w' ⟨rfl, rfl⟩))
  go_upto_region 4 with fail
  refine wp_world (fun wz => CnIn wz B fp1 g c ∧ Frm fp1 wx wz ∧ Blk wz b 42 s.box) ⟨hx3, hf3.mono (by simp), hb3⟩ ?_
  clear hf2 hfa hx2 hb2 hr2 hd3 hf3 hx3 hb3
  rintro wz ⟨hz, hfz, hbw⟩
  have x2 : wz.cell? ⟨b, 2, none⟩ = some (.int .u32 s.seq) := hbw.cell 2
  have x4 : wz.cell? ⟨b, 4, none⟩ = some (.int .i64 s.flags) := hbw.cell 4
  have HZ := Lib.hid hz
  have HFZ := Lib.hid hfz
  have HBW := Lib.hid hbw
  clear hz hfz hbw
  go_wp2_with fail
  have hwt := fun k => cwant_in (wz.drewN k) (HZ.out.drw (Drw.mk wz k))
  have HWT := Lib.hid hwt
  clear hwt
  go_quiet ((go_at_call 61; exact quiet_left (HWT.out _)))
  go_wp2_with fail
  refine (ctell_in _ hn (HZ.out.drw (Drw.mk _ _))).mono ?_
  rintro e w4 ⟨rfl, hto⟩
  go_wp2_with fail
  go_ret
  exact ⟨rfl, CnTo.after HFX.out (fun i hi => HBZ.out ▸ HIX.out i hi) (CnTo.after HFZ.out (fun _ h => .inl h) (CnTo.after ((Frm.refl _ _).drewN _) (fun _ h => .inl h)  hto))⟩

set_option maxRecDepth 100000 in
set_option maxHeartbeats 2000000 in
theorem ccounts5a {B g : Nat} {fp : List Nat} {c : CN} (w : World) (s : Sg) (hs : s.Ok) (hfit : c.fits s = true) (hn : c.out.length ≤ 1000000) (hR : hasF s.flags 4 = true) (hw : s.seq ≠ c.want) (h6 : hasF s.flags 6 = false) (hA : hasF s.flags 16 = true) (h : CnIn w B fp g c) :
    Calls Try.prog 42 #[.pointer (some ⟨g, 0, none⟩), .agg #[.int .i64 s.frm, .int .i64 s.dst, .int .u32 s.seq, .int .u32 s.ack, .int .i64 s.flags, .int .i64 s.window, .int .i64 s.mss, .string ⟨s.data.toArray⟩]] w fun e w' => e = .returned (.bool (c.answers s).1) ∧ CnTo w w' B fp g (c.answers s).2 := by
  have hbox := boxed_new s h
  have HBOX := Lib.hid hbox
  have hl0 : 0 ≤ s.len ∧ s.len ≤ 1000002 := sg_len hs
  obtain ⟨M, hM⟩ : ∃ M, (if ((c.rb.win : Nat) : Int) < 1 then 1 else ((c.rb.win : Nat) : Int)) = M := ⟨_, rfl⟩
  have hfit2 : mayB s.seq s.len c.want M = true := by
    rw [← hfit, ← hM]
    unfold CN.fits
    congr 1
    split <;> omega
  have hmay := fun (w : World) => may_any s.seq s.len c.want M w (by omega) (by omega)
  rw [hfit2] at hmay
  have HMAY := Lib.hid hmay
  have HS := Lib.hid hs
  have hsd := hs.dl
  clear hbox h hl0 hfit hfit2 hmay hs
  obtain ⟨a4, b4⟩ := hasF_true hR
  clear hR
  have bw : (s.seq == c.want) = false := by simpa using hw
  clear hw
  obtain ⟨a6, b6⟩ := hasF_false h6
  clear h6
  obtain ⟨a16, b16⟩ := hasF_true hA
  clear hA
  go_enter Try.func42, Try.ntmps42
  go_upto_region 1 with fail
  refine wp_world (fun wx => Boxed w wx B fp g w.heap.size c s) HBOX.out ?_
  rintro wx ⟨fp1, hx, hfx, hix, hb, hnb, hBb⟩
  generalize hbz : w.heap.size = b at *
  have hxd := hx.drw (Drw.mk wx 1)
  have hbd := hb.drewN 1
  have HX := Lib.hid hxd
  have HB := Lib.hid hbd
  have HFX := Lib.hid hfx
  have HIX := Lib.hid hix
  have HNB := Lib.hid hnb
  have HBB := Lib.hid hBb
  have HBZ := Lib.hid hbz
  obtain ⟨gs, gi, gd, gh, gc, rv, ov, hin, -, ho, -⟩ := hx
  have hin0 : ∀ wy, Frm [] wx wy → wy.cell? ⟨g, 16, none⟩ = some (.pointer (some ⟨gi, 0, none⟩)) ∧ RbIn wy B gi gd gh rv c.rb := fun wy hf => ⟨(hin.blk.frm hf (by simp)).cell 16, hin.rb.frm hf (by simp) (by simp) (by simp) (by simp)⟩
  have hS0 : ∀ wy, Frm [] wx wy → ((fun w' => w'.cell? ⟨b, 0, none⟩ = some (.int .i64 s.frm) ∧ w'.cell? ⟨b, 1, none⟩ = some (.int .i64 s.dst) ∧ w'.cell? ⟨b, 2, none⟩ = some (.int .u32 s.seq) ∧ w'.cell? ⟨b, 3, none⟩ = some (.int .u32 s.ack) ∧ w'.cell? ⟨b, 4, none⟩ = some (.int .i64 s.flags) ∧ w'.cell? ⟨b, 5, none⟩ = some (.int .i64 s.window) ∧ w'.cell? ⟨b, 6, none⟩ = some (.int .i64 s.mss) ∧ w'.cell? ⟨b, 7, none⟩ = some (.string ⟨s.data.toArray⟩) ∧ w'.cell? ⟨g, 16, none⟩ = some (.pointer (some ⟨gi, 0, none⟩)))) wy := fun wy hf => ⟨(hb.frm hf (by simp)).cell 0, (hb.frm hf (by simp)).cell 1, (hb.frm hf (by simp)).cell 2, (hb.frm hf (by simp)).cell 3, (hb.frm hf (by simp)).cell 4, (hb.frm hf (by simp)).cell 5, (hb.frm hf (by simp)).cell 6, (hb.frm hf (by simp)).cell 7, (hin0 wy hf).1⟩
  have HS0 := Lib.hid hS0
  have HIN := Lib.hid hin0
  have HRB := Lib.hid ho.rb
  clear hxd hbd hfx hix hnb hBb hbz hin hin0 hS0 hb ho
  go_region_held3 (fun w' => w'.cell? ⟨b, 0, none⟩ = some (.int .i64 s.frm) ∧ w'.cell? ⟨b, 1, none⟩ = some (.int .i64 s.dst) ∧ w'.cell? ⟨b, 2, none⟩ = some (.int .u32 s.seq) ∧ w'.cell? ⟨b, 3, none⟩ = some (.int .u32 s.ack) ∧ w'.cell? ⟨b, 4, none⟩ = some (.int .i64 s.flags) ∧ w'.cell? ⟨b, 5, none⟩ = some (.int .i64 s.window) ∧ w'.cell? ⟨b, 6, none⟩ = some (.int .i64 s.mss) ∧ w'.cell? ⟨b, 7, none⟩ = some (.string ⟨s.data.toArray⟩) ∧ w'.cell? ⟨g, 16, none⟩ = some (.pointer (some ⟨gi, 0, none⟩)))
    (first | exact HS0.out _ ((Frm.refl _ _).drewN 1) | exact HS0.out _ hf2 | exact HS0.out _ hf3)
    (first
      | (go_at_call 41; refine (len_any s _ hsd).mono ?_; rintro e w2 ⟨rfl, hfa⟩; have hf2 := ((Frm.refl [] wx).drewN 1).next0 hfa; have hx2 := HX.out.frm hfa (by simp); have hb2 := HB.out.frm hfa (by simp); have hr2 := (HIN.out _ hf2).2)
      | (go_at_call 61; refine (cwant_in _ hx2).mono ?_; rintro e w' ⟨rfl, rfl⟩)
      | (go_at_call 38; refine (rwindow_in _ HRB.out hr2).mono ?_; rintro e w3 ⟨rfl, hd3⟩; have hf3 := hd3.next hf2; have hx3 := hx2.drw hd3; have hb3 := hd3.blk hb2)
      | (go_at_call 60; refine (HMAY.out _).mono ?_; rintro e w' ⟨rfl, rfl⟩))
  go_upto_region 4 with fail
  refine wp_world (fun wz => CnIn wz B fp1 g c ∧ Frm fp1 wx wz ∧ Blk wz b 42 s.box) ⟨hx3, hf3.mono (by simp), hb3⟩ ?_
  clear hf2 hfa hx2 hb2 hr2 hd3 hf3 hx3 hb3
  rintro wz ⟨hz, hfz, hbw⟩
  have x2 : wz.cell? ⟨b, 2, none⟩ = some (.int .u32 s.seq) := hbw.cell 2
  have x4 : wz.cell? ⟨b, 4, none⟩ = some (.int .i64 s.flags) := hbw.cell 4
  have HZ := Lib.hid hz
  have HFZ := Lib.hid hfz
  have HBW := Lib.hid hbw
  clear hz hfz hbw
  go_wp2_with fail
  have hwt := fun k => cwant_in (wz.drewN k) (HZ.out.drw (Drw.mk wz k))
  have HWT := Lib.hid hwt
  clear hwt
  go_quiet ((go_at_call 61; exact quiet_left (HWT.out _)))
  go_upto_region 9 with fail
  refine wp_world (fun wq => CnIn wq B fp1 g c ∧ Frm fp1 wx wq ∧ Blk wq b 42 s.box) ⟨HZ.out.drw (Drw.mk _ _), HFZ.out.drewN _, HBW.out.drewN _⟩ ?_
  rintro wq ⟨hz, hfz, hbw⟩
  clear x2 x4 HZ HFZ HBW
  have x0 : wq.cell? ⟨b, 0, none⟩ = some (.int .i64 s.frm) := hbw.cell 0
  have x1 : wq.cell? ⟨b, 1, none⟩ = some (.int .i64 s.dst) := hbw.cell 1
  have x2 : wq.cell? ⟨b, 2, none⟩ = some (.int .u32 s.seq) := hbw.cell 2
  have x3 : wq.cell? ⟨b, 3, none⟩ = some (.int .u32 s.ack) := hbw.cell 3
  have x4 : wq.cell? ⟨b, 4, none⟩ = some (.int .i64 s.flags) := hbw.cell 4
  have x5 : wq.cell? ⟨b, 5, none⟩ = some (.int .i64 s.window) := hbw.cell 5
  have x6 : wq.cell? ⟨b, 6, none⟩ = some (.int .i64 s.mss) := hbw.cell 6
  have x7 : wq.cell? ⟨b, 7, none⟩ = some (.string ⟨s.data.toArray⟩) := hbw.cell 7
  have HZ := Lib.hid hz
  have HFZ := Lib.hid hfz
  clear hz hfz hbw
  go_wp2_with fail
  refine (canswers_in _ s hn HS.out HZ.out).mono ?_
  rintro e w4 ⟨rfl, hto⟩
  go_wp2_with fail
  go_ret
  exact ⟨rfl, CnTo.after HFX.out (fun i hi => HBZ.out ▸ HIX.out i hi) (CnTo.after HFZ.out (fun _ h => .inl h) hto)⟩

set_option maxRecDepth 100000 in
set_option maxHeartbeats 2000000 in
theorem ccounts6a {B g : Nat} {fp : List Nat} {c : CN} (w : World) (s : Sg) (hs : s.Ok) (hfit : c.fits s = true) (hR : hasF s.flags 4 = true) (hw : s.seq ≠ c.want) (h6 : hasF s.flags 6 = false) (hA : hasF s.flags 16 = false) (h : CnIn w B fp g c) :
    Calls Try.prog 42 #[.pointer (some ⟨g, 0, none⟩), .agg #[.int .i64 s.frm, .int .i64 s.dst, .int .u32 s.seq, .int .u32 s.ack, .int .i64 s.flags, .int .i64 s.window, .int .i64 s.mss, .string ⟨s.data.toArray⟩]] w fun e w' => e = .returned (.bool false) ∧ CnTo w w' B fp g c := by
  have hbox := boxed_new s h
  have HBOX := Lib.hid hbox
  have hl0 : 0 ≤ s.len ∧ s.len ≤ 1000002 := sg_len hs
  obtain ⟨M, hM⟩ : ∃ M, (if ((c.rb.win : Nat) : Int) < 1 then 1 else ((c.rb.win : Nat) : Int)) = M := ⟨_, rfl⟩
  have hfit2 : mayB s.seq s.len c.want M = true := by
    rw [← hfit, ← hM]
    unfold CN.fits
    congr 1
    split <;> omega
  have hmay := fun (w : World) => may_any s.seq s.len c.want M w (by omega) (by omega)
  rw [hfit2] at hmay
  have HMAY := Lib.hid hmay
  have HS := Lib.hid hs
  have hsd := hs.dl
  clear hbox h hl0 hfit hfit2 hmay hs
  obtain ⟨a4, b4⟩ := hasF_true hR
  clear hR
  have bw : (s.seq == c.want) = false := by simpa using hw
  clear hw
  obtain ⟨a6, b6⟩ := hasF_false h6
  clear h6
  obtain ⟨a16, b16⟩ := hasF_false hA
  clear hA
  go_enter Try.func42, Try.ntmps42
  go_upto_region 1 with fail
  refine wp_world (fun wx => Boxed w wx B fp g w.heap.size c s) HBOX.out ?_
  rintro wx ⟨fp1, hx, hfx, hix, hb, hnb, hBb⟩
  generalize hbz : w.heap.size = b at *
  have hxd := hx.drw (Drw.mk wx 1)
  have hbd := hb.drewN 1
  have HX := Lib.hid hxd
  have HB := Lib.hid hbd
  have HFX := Lib.hid hfx
  have HIX := Lib.hid hix
  have HNB := Lib.hid hnb
  have HBB := Lib.hid hBb
  have HBZ := Lib.hid hbz
  obtain ⟨gs, gi, gd, gh, gc, rv, ov, hin, -, ho, -⟩ := hx
  have hin0 : ∀ wy, Frm [] wx wy → wy.cell? ⟨g, 16, none⟩ = some (.pointer (some ⟨gi, 0, none⟩)) ∧ RbIn wy B gi gd gh rv c.rb := fun wy hf => ⟨(hin.blk.frm hf (by simp)).cell 16, hin.rb.frm hf (by simp) (by simp) (by simp) (by simp)⟩
  have hS0 : ∀ wy, Frm [] wx wy → ((fun w' => w'.cell? ⟨b, 0, none⟩ = some (.int .i64 s.frm) ∧ w'.cell? ⟨b, 1, none⟩ = some (.int .i64 s.dst) ∧ w'.cell? ⟨b, 2, none⟩ = some (.int .u32 s.seq) ∧ w'.cell? ⟨b, 3, none⟩ = some (.int .u32 s.ack) ∧ w'.cell? ⟨b, 4, none⟩ = some (.int .i64 s.flags) ∧ w'.cell? ⟨b, 5, none⟩ = some (.int .i64 s.window) ∧ w'.cell? ⟨b, 6, none⟩ = some (.int .i64 s.mss) ∧ w'.cell? ⟨b, 7, none⟩ = some (.string ⟨s.data.toArray⟩) ∧ w'.cell? ⟨g, 16, none⟩ = some (.pointer (some ⟨gi, 0, none⟩)))) wy := fun wy hf => ⟨(hb.frm hf (by simp)).cell 0, (hb.frm hf (by simp)).cell 1, (hb.frm hf (by simp)).cell 2, (hb.frm hf (by simp)).cell 3, (hb.frm hf (by simp)).cell 4, (hb.frm hf (by simp)).cell 5, (hb.frm hf (by simp)).cell 6, (hb.frm hf (by simp)).cell 7, (hin0 wy hf).1⟩
  have HS0 := Lib.hid hS0
  have HIN := Lib.hid hin0
  have HRB := Lib.hid ho.rb
  clear hxd hbd hfx hix hnb hBb hbz hin hin0 hS0 hb ho
  go_region_held3 (fun w' => w'.cell? ⟨b, 0, none⟩ = some (.int .i64 s.frm) ∧ w'.cell? ⟨b, 1, none⟩ = some (.int .i64 s.dst) ∧ w'.cell? ⟨b, 2, none⟩ = some (.int .u32 s.seq) ∧ w'.cell? ⟨b, 3, none⟩ = some (.int .u32 s.ack) ∧ w'.cell? ⟨b, 4, none⟩ = some (.int .i64 s.flags) ∧ w'.cell? ⟨b, 5, none⟩ = some (.int .i64 s.window) ∧ w'.cell? ⟨b, 6, none⟩ = some (.int .i64 s.mss) ∧ w'.cell? ⟨b, 7, none⟩ = some (.string ⟨s.data.toArray⟩) ∧ w'.cell? ⟨g, 16, none⟩ = some (.pointer (some ⟨gi, 0, none⟩)))
    (first | exact HS0.out _ ((Frm.refl _ _).drewN 1) | exact HS0.out _ hf2 | exact HS0.out _ hf3)
    (first
      | (go_at_call 41; refine (len_any s _ hsd).mono ?_; rintro e w2 ⟨rfl, hfa⟩; have hf2 := ((Frm.refl [] wx).drewN 1).next0 hfa; have hx2 := HX.out.frm hfa (by simp); have hb2 := HB.out.frm hfa (by simp); have hr2 := (HIN.out _ hf2).2)
      | (go_at_call 61; refine (cwant_in _ hx2).mono ?_; rintro e w' ⟨rfl, rfl⟩)
      | (go_at_call 38; refine (rwindow_in _ HRB.out hr2).mono ?_; rintro e w3 ⟨rfl, hd3⟩; have hf3 := hd3.next hf2; have hx3 := hx2.drw hd3; have hb3 := hd3.blk hb2)
      | (go_at_call 60; refine (HMAY.out _).mono ?_; rintro e w' ⟨rfl, rfl⟩))
  go_upto_region 4 with fail
  refine wp_world (fun wz => CnIn wz B fp1 g c ∧ Frm fp1 wx wz ∧ Blk wz b 42 s.box) ⟨hx3, hf3.mono (by simp), hb3⟩ ?_
  clear hf2 hfa hx2 hb2 hr2 hd3 hf3 hx3 hb3
  rintro wz ⟨hz, hfz, hbw⟩
  have x2 : wz.cell? ⟨b, 2, none⟩ = some (.int .u32 s.seq) := hbw.cell 2
  have x4 : wz.cell? ⟨b, 4, none⟩ = some (.int .i64 s.flags) := hbw.cell 4
  have HZ := Lib.hid hz
  have HFZ := Lib.hid hfz
  have HBW := Lib.hid hbw
  clear hz hfz hbw
  go_wp2_with fail
  have hwt := fun k => cwant_in (wz.drewN k) (HZ.out.drw (Drw.mk wz k))
  have HWT := Lib.hid hwt
  clear hwt
  go_quiet ((go_at_call 61; exact quiet_left (HWT.out _)))
  go_wp2_with fail
  go_ret
  exact ⟨rfl, CnTo.after HFX.out (fun i hi => HBZ.out ▸ HIX.out i hi) (CnTo.after (HFZ.out.drewN _) (fun _ h => .inl h) (HZ.out.drw (Drw.mk _ _)).to)⟩

set_option maxRecDepth 100000 in
set_option maxHeartbeats 2000000 in
theorem ccounts4b {B g : Nat} {fp : List Nat} {c : CN} (w : World) (s : Sg) (hs : s.Ok) (hfit : c.fits s = true) (hn : c.out.length ≤ 1000000) (hR : hasF s.flags 4 = false) (h6 : hasF s.flags 6 = true) (h : CnIn w B fp g c) :
    Calls Try.prog 42 #[.pointer (some ⟨g, 0, none⟩), .agg #[.int .i64 s.frm, .int .i64 s.dst, .int .u32 s.seq, .int .u32 s.ack, .int .i64 s.flags, .int .i64 s.window, .int .i64 s.mss, .string ⟨s.data.toArray⟩]] w fun e w' => e = .returned (.bool false) ∧ CnTo w w' B fp g c.tell := by
  have hbox := boxed_new s h
  have HBOX := Lib.hid hbox
  have hl0 : 0 ≤ s.len ∧ s.len ≤ 1000002 := sg_len hs
  obtain ⟨M, hM⟩ : ∃ M, (if ((c.rb.win : Nat) : Int) < 1 then 1 else ((c.rb.win : Nat) : Int)) = M := ⟨_, rfl⟩
  have hfit2 : mayB s.seq s.len c.want M = true := by
    rw [← hfit, ← hM]
    unfold CN.fits
    congr 1
    split <;> omega
  have hmay := fun (w : World) => may_any s.seq s.len c.want M w (by omega) (by omega)
  rw [hfit2] at hmay
  have HMAY := Lib.hid hmay
  have HS := Lib.hid hs
  have hsd := hs.dl
  clear hbox h hl0 hfit hfit2 hmay hs
  obtain ⟨a4, b4⟩ := hasF_false hR
  clear hR
  obtain ⟨a6, b6⟩ := hasF_true h6
  clear h6
  go_enter Try.func42, Try.ntmps42
  go_upto_region 1 with fail
  refine wp_world (fun wx => Boxed w wx B fp g w.heap.size c s) HBOX.out ?_
  rintro wx ⟨fp1, hx, hfx, hix, hb, hnb, hBb⟩
  generalize hbz : w.heap.size = b at *
  have hxd := hx.drw (Drw.mk wx 1)
  have hbd := hb.drewN 1
  have HX := Lib.hid hxd
  have HB := Lib.hid hbd
  have HFX := Lib.hid hfx
  have HIX := Lib.hid hix
  have HNB := Lib.hid hnb
  have HBB := Lib.hid hBb
  have HBZ := Lib.hid hbz
  obtain ⟨gs, gi, gd, gh, gc, rv, ov, hin, -, ho, -⟩ := hx
  have hin0 : ∀ wy, Frm [] wx wy → wy.cell? ⟨g, 16, none⟩ = some (.pointer (some ⟨gi, 0, none⟩)) ∧ RbIn wy B gi gd gh rv c.rb := fun wy hf => ⟨(hin.blk.frm hf (by simp)).cell 16, hin.rb.frm hf (by simp) (by simp) (by simp) (by simp)⟩
  have hS0 : ∀ wy, Frm [] wx wy → ((fun w' => w'.cell? ⟨b, 0, none⟩ = some (.int .i64 s.frm) ∧ w'.cell? ⟨b, 1, none⟩ = some (.int .i64 s.dst) ∧ w'.cell? ⟨b, 2, none⟩ = some (.int .u32 s.seq) ∧ w'.cell? ⟨b, 3, none⟩ = some (.int .u32 s.ack) ∧ w'.cell? ⟨b, 4, none⟩ = some (.int .i64 s.flags) ∧ w'.cell? ⟨b, 5, none⟩ = some (.int .i64 s.window) ∧ w'.cell? ⟨b, 6, none⟩ = some (.int .i64 s.mss) ∧ w'.cell? ⟨b, 7, none⟩ = some (.string ⟨s.data.toArray⟩) ∧ w'.cell? ⟨g, 16, none⟩ = some (.pointer (some ⟨gi, 0, none⟩)))) wy := fun wy hf => ⟨(hb.frm hf (by simp)).cell 0, (hb.frm hf (by simp)).cell 1, (hb.frm hf (by simp)).cell 2, (hb.frm hf (by simp)).cell 3, (hb.frm hf (by simp)).cell 4, (hb.frm hf (by simp)).cell 5, (hb.frm hf (by simp)).cell 6, (hb.frm hf (by simp)).cell 7, (hin0 wy hf).1⟩
  have HS0 := Lib.hid hS0
  have HIN := Lib.hid hin0
  have HRB := Lib.hid ho.rb
  clear hxd hbd hfx hix hnb hBb hbz hin hin0 hS0 hb ho
  go_region_held3 (fun w' => w'.cell? ⟨b, 0, none⟩ = some (.int .i64 s.frm) ∧ w'.cell? ⟨b, 1, none⟩ = some (.int .i64 s.dst) ∧ w'.cell? ⟨b, 2, none⟩ = some (.int .u32 s.seq) ∧ w'.cell? ⟨b, 3, none⟩ = some (.int .u32 s.ack) ∧ w'.cell? ⟨b, 4, none⟩ = some (.int .i64 s.flags) ∧ w'.cell? ⟨b, 5, none⟩ = some (.int .i64 s.window) ∧ w'.cell? ⟨b, 6, none⟩ = some (.int .i64 s.mss) ∧ w'.cell? ⟨b, 7, none⟩ = some (.string ⟨s.data.toArray⟩) ∧ w'.cell? ⟨g, 16, none⟩ = some (.pointer (some ⟨gi, 0, none⟩)))
    (first | exact HS0.out _ ((Frm.refl _ _).drewN 1) | exact HS0.out _ hf2 | exact HS0.out _ hf3)
    (first
      | (go_at_call 41; refine (len_any s _ hsd).mono ?_; rintro e w2 ⟨rfl, hfa⟩; have hf2 := ((Frm.refl [] wx).drewN 1).next0 hfa; have hx2 := HX.out.frm hfa (by simp); have hb2 := HB.out.frm hfa (by simp); have hr2 := (HIN.out _ hf2).2)
      | (go_at_call 61; refine (cwant_in _ hx2).mono ?_; rintro e w' ⟨rfl, rfl⟩)
      | (go_at_call 38; refine (rwindow_in _ HRB.out hr2).mono ?_; rintro e w3 ⟨rfl, hd3⟩; have hf3 := hd3.next hf2; have hx3 := hx2.drw hd3; have hb3 := hd3.blk hb2)
      | (go_at_call 60; refine (HMAY.out _).mono ?_; rintro e w' ⟨rfl, rfl⟩))
  go_upto_region 4 with fail
  refine wp_world (fun wz => CnIn wz B fp1 g c ∧ Frm fp1 wx wz ∧ Blk wz b 42 s.box) ⟨hx3, hf3.mono (by simp), hb3⟩ ?_
  clear hf2 hfa hx2 hb2 hr2 hd3 hf3 hx3 hb3
  rintro wz ⟨hz, hfz, hbw⟩
  have x2 : wz.cell? ⟨b, 2, none⟩ = some (.int .u32 s.seq) := hbw.cell 2
  have x4 : wz.cell? ⟨b, 4, none⟩ = some (.int .i64 s.flags) := hbw.cell 4
  have HZ := Lib.hid hz
  have HFZ := Lib.hid hfz
  have HBW := Lib.hid hbw
  clear hz hfz hbw
  go_wp2_with fail
  go_quiet (fail)
  go_wp2_with fail
  refine (ctell_in _ hn (HZ.out.drw (Drw.mk _ _))).mono ?_
  rintro e w4 ⟨rfl, hto⟩
  go_wp2_with fail
  go_ret
  exact ⟨rfl, CnTo.after HFX.out (fun i hi => HBZ.out ▸ HIX.out i hi) (CnTo.after HFZ.out (fun _ h => .inl h) (CnTo.after ((Frm.refl _ _).drewN _) (fun _ h => .inl h)  hto))⟩

set_option maxRecDepth 100000 in
set_option maxHeartbeats 2000000 in
theorem ccounts5b {B g : Nat} {fp : List Nat} {c : CN} (w : World) (s : Sg) (hs : s.Ok) (hfit : c.fits s = true) (hn : c.out.length ≤ 1000000) (hR : hasF s.flags 4 = false) (h6 : hasF s.flags 6 = false) (hA : hasF s.flags 16 = true) (h : CnIn w B fp g c) :
    Calls Try.prog 42 #[.pointer (some ⟨g, 0, none⟩), .agg #[.int .i64 s.frm, .int .i64 s.dst, .int .u32 s.seq, .int .u32 s.ack, .int .i64 s.flags, .int .i64 s.window, .int .i64 s.mss, .string ⟨s.data.toArray⟩]] w fun e w' => e = .returned (.bool (c.answers s).1) ∧ CnTo w w' B fp g (c.answers s).2 := by
  have hbox := boxed_new s h
  have HBOX := Lib.hid hbox
  have hl0 : 0 ≤ s.len ∧ s.len ≤ 1000002 := sg_len hs
  obtain ⟨M, hM⟩ : ∃ M, (if ((c.rb.win : Nat) : Int) < 1 then 1 else ((c.rb.win : Nat) : Int)) = M := ⟨_, rfl⟩
  have hfit2 : mayB s.seq s.len c.want M = true := by
    rw [← hfit, ← hM]
    unfold CN.fits
    congr 1
    split <;> omega
  have hmay := fun (w : World) => may_any s.seq s.len c.want M w (by omega) (by omega)
  rw [hfit2] at hmay
  have HMAY := Lib.hid hmay
  have HS := Lib.hid hs
  have hsd := hs.dl
  clear hbox h hl0 hfit hfit2 hmay hs
  obtain ⟨a4, b4⟩ := hasF_false hR
  clear hR
  obtain ⟨a6, b6⟩ := hasF_false h6
  clear h6
  obtain ⟨a16, b16⟩ := hasF_true hA
  clear hA
  go_enter Try.func42, Try.ntmps42
  go_upto_region 1 with fail
  refine wp_world (fun wx => Boxed w wx B fp g w.heap.size c s) HBOX.out ?_
  rintro wx ⟨fp1, hx, hfx, hix, hb, hnb, hBb⟩
  generalize hbz : w.heap.size = b at *
  have hxd := hx.drw (Drw.mk wx 1)
  have hbd := hb.drewN 1
  have HX := Lib.hid hxd
  have HB := Lib.hid hbd
  have HFX := Lib.hid hfx
  have HIX := Lib.hid hix
  have HNB := Lib.hid hnb
  have HBB := Lib.hid hBb
  have HBZ := Lib.hid hbz
  obtain ⟨gs, gi, gd, gh, gc, rv, ov, hin, -, ho, -⟩ := hx
  have hin0 : ∀ wy, Frm [] wx wy → wy.cell? ⟨g, 16, none⟩ = some (.pointer (some ⟨gi, 0, none⟩)) ∧ RbIn wy B gi gd gh rv c.rb := fun wy hf => ⟨(hin.blk.frm hf (by simp)).cell 16, hin.rb.frm hf (by simp) (by simp) (by simp) (by simp)⟩
  have hS0 : ∀ wy, Frm [] wx wy → ((fun w' => w'.cell? ⟨b, 0, none⟩ = some (.int .i64 s.frm) ∧ w'.cell? ⟨b, 1, none⟩ = some (.int .i64 s.dst) ∧ w'.cell? ⟨b, 2, none⟩ = some (.int .u32 s.seq) ∧ w'.cell? ⟨b, 3, none⟩ = some (.int .u32 s.ack) ∧ w'.cell? ⟨b, 4, none⟩ = some (.int .i64 s.flags) ∧ w'.cell? ⟨b, 5, none⟩ = some (.int .i64 s.window) ∧ w'.cell? ⟨b, 6, none⟩ = some (.int .i64 s.mss) ∧ w'.cell? ⟨b, 7, none⟩ = some (.string ⟨s.data.toArray⟩) ∧ w'.cell? ⟨g, 16, none⟩ = some (.pointer (some ⟨gi, 0, none⟩)))) wy := fun wy hf => ⟨(hb.frm hf (by simp)).cell 0, (hb.frm hf (by simp)).cell 1, (hb.frm hf (by simp)).cell 2, (hb.frm hf (by simp)).cell 3, (hb.frm hf (by simp)).cell 4, (hb.frm hf (by simp)).cell 5, (hb.frm hf (by simp)).cell 6, (hb.frm hf (by simp)).cell 7, (hin0 wy hf).1⟩
  have HS0 := Lib.hid hS0
  have HIN := Lib.hid hin0
  have HRB := Lib.hid ho.rb
  clear hxd hbd hfx hix hnb hBb hbz hin hin0 hS0 hb ho
  go_region_held3 (fun w' => w'.cell? ⟨b, 0, none⟩ = some (.int .i64 s.frm) ∧ w'.cell? ⟨b, 1, none⟩ = some (.int .i64 s.dst) ∧ w'.cell? ⟨b, 2, none⟩ = some (.int .u32 s.seq) ∧ w'.cell? ⟨b, 3, none⟩ = some (.int .u32 s.ack) ∧ w'.cell? ⟨b, 4, none⟩ = some (.int .i64 s.flags) ∧ w'.cell? ⟨b, 5, none⟩ = some (.int .i64 s.window) ∧ w'.cell? ⟨b, 6, none⟩ = some (.int .i64 s.mss) ∧ w'.cell? ⟨b, 7, none⟩ = some (.string ⟨s.data.toArray⟩) ∧ w'.cell? ⟨g, 16, none⟩ = some (.pointer (some ⟨gi, 0, none⟩)))
    (first | exact HS0.out _ ((Frm.refl _ _).drewN 1) | exact HS0.out _ hf2 | exact HS0.out _ hf3)
    (first
      | (go_at_call 41; refine (len_any s _ hsd).mono ?_; rintro e w2 ⟨rfl, hfa⟩; have hf2 := ((Frm.refl [] wx).drewN 1).next0 hfa; have hx2 := HX.out.frm hfa (by simp); have hb2 := HB.out.frm hfa (by simp); have hr2 := (HIN.out _ hf2).2)
      | (go_at_call 61; refine (cwant_in _ hx2).mono ?_; rintro e w' ⟨rfl, rfl⟩)
      | (go_at_call 38; refine (rwindow_in _ HRB.out hr2).mono ?_; rintro e w3 ⟨rfl, hd3⟩; have hf3 := hd3.next hf2; have hx3 := hx2.drw hd3; have hb3 := hd3.blk hb2)
      | (go_at_call 60; refine (HMAY.out _).mono ?_; rintro e w' ⟨rfl, rfl⟩))
  go_upto_region 4 with fail
  refine wp_world (fun wz => CnIn wz B fp1 g c ∧ Frm fp1 wx wz ∧ Blk wz b 42 s.box) ⟨hx3, hf3.mono (by simp), hb3⟩ ?_
  clear hf2 hfa hx2 hb2 hr2 hd3 hf3 hx3 hb3
  rintro wz ⟨hz, hfz, hbw⟩
  have x2 : wz.cell? ⟨b, 2, none⟩ = some (.int .u32 s.seq) := hbw.cell 2
  have x4 : wz.cell? ⟨b, 4, none⟩ = some (.int .i64 s.flags) := hbw.cell 4
  have HZ := Lib.hid hz
  have HFZ := Lib.hid hfz
  have HBW := Lib.hid hbw
  clear hz hfz hbw
  go_wp2_with fail
  go_quiet (fail)
  go_upto_region 9 with fail
  refine wp_world (fun wq => CnIn wq B fp1 g c ∧ Frm fp1 wx wq ∧ Blk wq b 42 s.box) ⟨HZ.out.drw (Drw.mk _ _), HFZ.out.drewN _, HBW.out.drewN _⟩ ?_
  rintro wq ⟨hz, hfz, hbw⟩
  clear x2 x4 HZ HFZ HBW
  have x0 : wq.cell? ⟨b, 0, none⟩ = some (.int .i64 s.frm) := hbw.cell 0
  have x1 : wq.cell? ⟨b, 1, none⟩ = some (.int .i64 s.dst) := hbw.cell 1
  have x2 : wq.cell? ⟨b, 2, none⟩ = some (.int .u32 s.seq) := hbw.cell 2
  have x3 : wq.cell? ⟨b, 3, none⟩ = some (.int .u32 s.ack) := hbw.cell 3
  have x4 : wq.cell? ⟨b, 4, none⟩ = some (.int .i64 s.flags) := hbw.cell 4
  have x5 : wq.cell? ⟨b, 5, none⟩ = some (.int .i64 s.window) := hbw.cell 5
  have x6 : wq.cell? ⟨b, 6, none⟩ = some (.int .i64 s.mss) := hbw.cell 6
  have x7 : wq.cell? ⟨b, 7, none⟩ = some (.string ⟨s.data.toArray⟩) := hbw.cell 7
  have HZ := Lib.hid hz
  have HFZ := Lib.hid hfz
  clear hz hfz hbw
  go_wp2_with fail
  refine (canswers_in _ s hn HS.out HZ.out).mono ?_
  rintro e w4 ⟨rfl, hto⟩
  go_wp2_with fail
  go_ret
  exact ⟨rfl, CnTo.after HFX.out (fun i hi => HBZ.out ▸ HIX.out i hi) (CnTo.after HFZ.out (fun _ h => .inl h) hto)⟩

set_option maxRecDepth 100000 in
set_option maxHeartbeats 2000000 in
theorem ccounts6b {B g : Nat} {fp : List Nat} {c : CN} (w : World) (s : Sg) (hs : s.Ok) (hfit : c.fits s = true) (hR : hasF s.flags 4 = false) (h6 : hasF s.flags 6 = false) (hA : hasF s.flags 16 = false) (h : CnIn w B fp g c) :
    Calls Try.prog 42 #[.pointer (some ⟨g, 0, none⟩), .agg #[.int .i64 s.frm, .int .i64 s.dst, .int .u32 s.seq, .int .u32 s.ack, .int .i64 s.flags, .int .i64 s.window, .int .i64 s.mss, .string ⟨s.data.toArray⟩]] w fun e w' => e = .returned (.bool false) ∧ CnTo w w' B fp g c := by
  have hbox := boxed_new s h
  have HBOX := Lib.hid hbox
  have hl0 : 0 ≤ s.len ∧ s.len ≤ 1000002 := sg_len hs
  obtain ⟨M, hM⟩ : ∃ M, (if ((c.rb.win : Nat) : Int) < 1 then 1 else ((c.rb.win : Nat) : Int)) = M := ⟨_, rfl⟩
  have hfit2 : mayB s.seq s.len c.want M = true := by
    rw [← hfit, ← hM]
    unfold CN.fits
    congr 1
    split <;> omega
  have hmay := fun (w : World) => may_any s.seq s.len c.want M w (by omega) (by omega)
  rw [hfit2] at hmay
  have HMAY := Lib.hid hmay
  have HS := Lib.hid hs
  have hsd := hs.dl
  clear hbox h hl0 hfit hfit2 hmay hs
  obtain ⟨a4, b4⟩ := hasF_false hR
  clear hR
  obtain ⟨a6, b6⟩ := hasF_false h6
  clear h6
  obtain ⟨a16, b16⟩ := hasF_false hA
  clear hA
  go_enter Try.func42, Try.ntmps42
  go_upto_region 1 with fail
  refine wp_world (fun wx => Boxed w wx B fp g w.heap.size c s) HBOX.out ?_
  rintro wx ⟨fp1, hx, hfx, hix, hb, hnb, hBb⟩
  generalize hbz : w.heap.size = b at *
  have hxd := hx.drw (Drw.mk wx 1)
  have hbd := hb.drewN 1
  have HX := Lib.hid hxd
  have HB := Lib.hid hbd
  have HFX := Lib.hid hfx
  have HIX := Lib.hid hix
  have HNB := Lib.hid hnb
  have HBB := Lib.hid hBb
  have HBZ := Lib.hid hbz
  obtain ⟨gs, gi, gd, gh, gc, rv, ov, hin, -, ho, -⟩ := hx
  have hin0 : ∀ wy, Frm [] wx wy → wy.cell? ⟨g, 16, none⟩ = some (.pointer (some ⟨gi, 0, none⟩)) ∧ RbIn wy B gi gd gh rv c.rb := fun wy hf => ⟨(hin.blk.frm hf (by simp)).cell 16, hin.rb.frm hf (by simp) (by simp) (by simp) (by simp)⟩
  have hS0 : ∀ wy, Frm [] wx wy → ((fun w' => w'.cell? ⟨b, 0, none⟩ = some (.int .i64 s.frm) ∧ w'.cell? ⟨b, 1, none⟩ = some (.int .i64 s.dst) ∧ w'.cell? ⟨b, 2, none⟩ = some (.int .u32 s.seq) ∧ w'.cell? ⟨b, 3, none⟩ = some (.int .u32 s.ack) ∧ w'.cell? ⟨b, 4, none⟩ = some (.int .i64 s.flags) ∧ w'.cell? ⟨b, 5, none⟩ = some (.int .i64 s.window) ∧ w'.cell? ⟨b, 6, none⟩ = some (.int .i64 s.mss) ∧ w'.cell? ⟨b, 7, none⟩ = some (.string ⟨s.data.toArray⟩) ∧ w'.cell? ⟨g, 16, none⟩ = some (.pointer (some ⟨gi, 0, none⟩)))) wy := fun wy hf => ⟨(hb.frm hf (by simp)).cell 0, (hb.frm hf (by simp)).cell 1, (hb.frm hf (by simp)).cell 2, (hb.frm hf (by simp)).cell 3, (hb.frm hf (by simp)).cell 4, (hb.frm hf (by simp)).cell 5, (hb.frm hf (by simp)).cell 6, (hb.frm hf (by simp)).cell 7, (hin0 wy hf).1⟩
  have HS0 := Lib.hid hS0
  have HIN := Lib.hid hin0
  have HRB := Lib.hid ho.rb
  clear hxd hbd hfx hix hnb hBb hbz hin hin0 hS0 hb ho
  go_region_held3 (fun w' => w'.cell? ⟨b, 0, none⟩ = some (.int .i64 s.frm) ∧ w'.cell? ⟨b, 1, none⟩ = some (.int .i64 s.dst) ∧ w'.cell? ⟨b, 2, none⟩ = some (.int .u32 s.seq) ∧ w'.cell? ⟨b, 3, none⟩ = some (.int .u32 s.ack) ∧ w'.cell? ⟨b, 4, none⟩ = some (.int .i64 s.flags) ∧ w'.cell? ⟨b, 5, none⟩ = some (.int .i64 s.window) ∧ w'.cell? ⟨b, 6, none⟩ = some (.int .i64 s.mss) ∧ w'.cell? ⟨b, 7, none⟩ = some (.string ⟨s.data.toArray⟩) ∧ w'.cell? ⟨g, 16, none⟩ = some (.pointer (some ⟨gi, 0, none⟩)))
    (first | exact HS0.out _ ((Frm.refl _ _).drewN 1) | exact HS0.out _ hf2 | exact HS0.out _ hf3)
    (first
      | (go_at_call 41; refine (len_any s _ hsd).mono ?_; rintro e w2 ⟨rfl, hfa⟩; have hf2 := ((Frm.refl [] wx).drewN 1).next0 hfa; have hx2 := HX.out.frm hfa (by simp); have hb2 := HB.out.frm hfa (by simp); have hr2 := (HIN.out _ hf2).2)
      | (go_at_call 61; refine (cwant_in _ hx2).mono ?_; rintro e w' ⟨rfl, rfl⟩)
      | (go_at_call 38; refine (rwindow_in _ HRB.out hr2).mono ?_; rintro e w3 ⟨rfl, hd3⟩; have hf3 := hd3.next hf2; have hx3 := hx2.drw hd3; have hb3 := hd3.blk hb2)
      | (go_at_call 60; refine (HMAY.out _).mono ?_; rintro e w' ⟨rfl, rfl⟩))
  go_upto_region 4 with fail
  refine wp_world (fun wz => CnIn wz B fp1 g c ∧ Frm fp1 wx wz ∧ Blk wz b 42 s.box) ⟨hx3, hf3.mono (by simp), hb3⟩ ?_
  clear hf2 hfa hx2 hb2 hr2 hd3 hf3 hx3 hb3
  rintro wz ⟨hz, hfz, hbw⟩
  have x2 : wz.cell? ⟨b, 2, none⟩ = some (.int .u32 s.seq) := hbw.cell 2
  have x4 : wz.cell? ⟨b, 4, none⟩ = some (.int .i64 s.flags) := hbw.cell 4
  have HZ := Lib.hid hz
  have HFZ := Lib.hid hfz
  have HBW := Lib.hid hbw
  clear hz hfz hbw
  go_wp2_with fail
  go_quiet (fail)
  go_wp2_with fail
  go_ret
  exact ⟨rfl, CnTo.after HFX.out (fun i hi => HBZ.out ▸ HIX.out i hi) (CnTo.after (HFZ.out.drewN _) (fun _ h => .inl h) (HZ.out.drw (Drw.mk _ _)).to)⟩

theorem ccounts_in {B g : Nat} {fp : List Nat} {c : CN} (w : World) (s : Sg) (hn : c.out.length ≤ 1000000) (hs : s.Ok) (h : CnIn w B fp g c) :
    Calls Try.prog 42 #[.pointer (some ⟨g, 0, none⟩), .agg #[.int .i64 s.frm, .int .i64 s.dst, .int .u32 s.seq, .int .u32 s.ack, .int .i64 s.flags, .int .i64 s.window, .int .i64 s.mss, .string ⟨s.data.toArray⟩]] w fun e w' => e = .returned (.bool (c.counts s).1) ∧ CnTo w w' B fp g (c.counts s).2 := by
  unfold CN.counts
  rcases hfit : c.fits s with _ | _
  · rw [if_neg (by simp)]
    rcases hR : hasF s.flags 4 with _ | _
    · rw [if_neg (by simp)]
      exact ccounts2 w s hs hfit hn hR h
    · rw [if_pos rfl]
      exact ccounts1 w s hs hfit hR h
  · rw [if_pos rfl]
    rcases hR : hasF s.flags 4 with _ | _
    · rw [if_neg (by simp)]
      rcases h6 : hasF s.flags 6 with _ | _
      · rw [if_neg (by simp)]
        rcases hA : hasF s.flags 16 with _ | _
        · rw [if_neg (by simp)]
          exact ccounts6b w s hs hfit hR h6 hA h
        · rw [if_pos rfl]
          exact ccounts5b w s hs hfit hn hR h6 hA h
      · rw [if_pos rfl]
        exact ccounts4b w s hs hfit hn hR h6 h
    · by_cases hw : s.seq = c.want
      · rw [if_pos ⟨rfl, hw⟩]
        exact ccounts3 w s hs hfit hR hw h
      · rw [if_neg (by simp [hw])]
        rcases h6 : hasF s.flags 6 with _ | _
        · rw [if_neg (by simp)]
          rcases hA : hasF s.flags 16 with _ | _
          · rw [if_neg (by simp)]
            exact ccounts6a w s hs hfit hR hw h6 hA h
          · rw [if_pos rfl]
            exact ccounts5a w s hs hfit hn hR hw h6 hA h
        · rw [if_pos rfl]
          exact ccounts4a w s hs hfit hn hR hw h6 h

end Go.Proofs.Ytpmlojgngcllfaa
