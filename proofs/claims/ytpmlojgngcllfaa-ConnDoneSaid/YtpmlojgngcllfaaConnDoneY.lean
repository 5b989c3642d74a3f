/- ConnDone: what the other end hears. -/
import Derived.Test.YtpmlojgngcllfaaConnDoneX
import Derived.Test.YtpmlojgngcllfaaConnLen
namespace Go.Proofs.Ytpmlojgngcllfaa
open Go.RowKit Go

theorem XIn.heardw {iss irs : Int} {give take : List UInt8} {w : World} {gx gt : Nat} {x : EX} {s : Sg} (h : XIn iss irs give take w gx gt x) (m : Int) (hm : m = ((x.heard irs s).H : Int)) : XIn iss irs give take (w.setCell ⟨gx, 7, none⟩ (.int .i64 m)) gx gt (x.heard irs s) ∧ Frm [gx] w (w.setCell ⟨gx, 7, none⟩ (.int .i64 m)) := by
  subst hm
  exact ⟨⟨(h.blk.set_ 7 _).as_ rfl, h.th.far (p := ⟨gx, 7, none⟩) (Ne.symm h.ne) _, h.tl⟩, (Frm.refl _ _).setCell (.inl (by simp)) _⟩
theorem map_set9 {α β : Type} (f : α → β) (l : List α) (k : Nat) (x : α) : (l.map f).toArray.setIfInBounds k (f x) = ((l.set k x).map f).toArray := by simp [List.map_set]
theorem one_in {i g : Nat} {l : List Nat} (h : i ∈ [g]) : i ∈ g :: l := by
  rw [List.mem_singleton] at h
  rw [h]
  exact List.mem_cons_self ..
theorem i64w {a : Int} (h0 : -9223372036854775808 ≤ a) (h1 : a ≤ 9223372036854775807) : IntKind.i64.wrap a = a := by
  simp [IntKind.wrap, IntKind.signed, IntKind.bits] <;> (try split) <;> omega
theorem mark24 {x : EX} {irs : Int} {s : Sg} {a R : Nat} {P : List Bool} (hP : P = paint x.th a s.data.length) (hR : R = climb P x.W (x.W - x.U) x.U) (hf : s.flags = 24) : (x.heard irs s).mark a s = { x.heard irs s with th := P, U := R } := by
  subst hR hP
  unfold EX.mark
  rw [hf, show hasF 24 1 = false from by kernel_rfl, Bool.false_and, Bool.false_and, Bool.or_false]
  rfl
theorem mark17n {x : EX} {irs : Int} {s : Sg} {a R : Nat} {P : List Bool} (hP : P = paint x.th a s.data.length) (hR : R = climb P x.W (x.W - x.U) x.U) (_ : s.flags = 17) (hn : ¬ (a + s.data.length = x.W ∧ R = x.W)) : (x.heard irs s).mark a s = { x.heard irs s with th := P, U := R } := by
  subst hR hP
  unfold EX.mark
  have h1 : (decide (a + s.data.length = x.W) && decide (climb (paint x.th a s.data.length) x.W (x.W - x.U) x.U = x.W)) = false := by
    rw [← Bool.decide_and]
    exact decide_eq_false hn
  rw [Bool.and_assoc]
  show EX.mk _ _ _ (x.F || (_ && (decide (a + s.data.length = x.W) && decide (climb (paint x.th a s.data.length) x.W (x.W - x.U) x.U = x.W)))) _ _ = _
  rw [h1, Bool.and_false, Bool.or_false]
  rfl
theorem mark17y {x : EX} {irs : Int} {s : Sg} {a R : Nat} {P : List Bool} (hP : P = paint x.th a s.data.length) (hR : R = climb P x.W (x.W - x.U) x.U) (hf : s.flags = 17) (hn : a + s.data.length = x.W ∧ R = x.W) : (x.heard irs s).mark a s = { x.heard irs s with th := P, U := R, F := true } := by
  subst hR hP
  unfold EX.mark
  have h1 : (decide (a + s.data.length = x.W) && decide (climb (paint x.th a s.data.length) x.W (x.W - x.U) x.U = x.W)) = true := by
    rw [← Bool.decide_and]
    exact decide_eq_true hn
  rw [hf, show hasF 17 1 = true from by kernel_rfl, Bool.and_assoc]
  show EX.mk _ _ _ (x.F || (_ && (decide (a + s.data.length = x.W) && decide (climb (paint x.th a s.data.length) x.W (x.W - x.U) x.U = x.W)))) _ _ = _
  rw [h1, Bool.and_true, Bool.or_true]
  rfl
theorem XIn.drew {iss irs : Int} {give take : List UInt8} {w : World} {gx gt : Nat} {x : EX} (h : XIn iss irs give take w gx gt x) : XIn iss irs give take w.drew gx gt x := ⟨h.blk.drew, h.th.drew, h.tl⟩

set_option maxRecDepth 100000 in
set_option maxHeartbeats 2000000 in
theorem xhears_16 {iss irs : Int} {give take : List UInt8} {gx gt : Nat} {x : EX} {s : Sg} (w : World) (h : XIn iss irs give take w gx gt x) (hH : x.H ≤ 3001) (hk : (ahd ((irs + 1) % 4294967296) s.ack).toNat ≤ 3001) (hfl : s.flags = 16) (hd : s.data = []) :
    Calls Try.prog 16 #[.pointer (some ⟨gx, 0, none⟩), .agg #[.int .i64 s.frm, .int .i64 s.dst, .int .u32 s.seq, .int .u32 s.ack, .int .i64 s.flags, .int .i64 s.window, .int .i64 s.mss, .string ⟨s.data.toArray⟩]] w fun e w' => e = .returned (.tuple #[]) ∧ XIn iss irs give take w' gx gt (x.heard irs s) ∧ Frm [gx, gt] w w' := by
  have HDD := Lib.hid hd
  clear hd
  obtain ⟨A, hA⟩ : ∃ A, A = s.ack := ⟨_, rfl⟩
  obtain ⟨Q, hQ⟩ : ∃ Q, Q = s.seq := ⟨_, rfl⟩
  obtain ⟨D, hD⟩ : ∃ D, D = s.data := ⟨_, rfl⟩
  rw [← hA, ← hQ, ← hD, hfl]
  have HD := Lib.hid hD
  have HFL := Lib.hid hfl
  have hV : IntKind.u32.wrap (A - IntKind.u32.wrap (irs + 1)) = ((ahd ((irs + 1) % 4294967296) s.ack).toNat : Int) := by rw [u32w, u32w, hA]; unfold ahd; omega
  have hHb : (x.H : Int) ≤ 3001 := by omega
  have hhd : ((x.heard irs s).H : Int) = max (x.H : Int) ((ahd ((irs + 1) % 4294967296) s.ack).toNat : Int) := by unfold EX.heard; show ((max x.H _ : Nat) : Int) = _; omega
  obtain ⟨V, hV2⟩ : ∃ V : Int, V = ((ahd ((irs + 1) % 4294967296) s.ack).toNat : Int) := ⟨_, rfl⟩
  rw [← hV2] at hV hhd
  have hV0 : 0 ≤ V := by omega
  have hV1 : V ≤ 3001 := by omega
  have hVW : IntKind.i64.wrap V = V := i64w (by omega) (by omega)
  have HHD := Lib.hid hhd
  have HV := Lib.hid hV
  have HX := Lib.hid h
  have HA := Lib.hid hA
  have HQ := Lib.hid hQ
  have hglt : gx < w.heap.size := h.blk.lt
  clear h hhd hA hQ hV2 hD hfl hk
  go_enter Try.func16, Try.ntmps16
  go_upto_region 1 with fail
  obtain ⟨b3, hb3⟩ : ∃ b3, b3 = w.heap.size := ⟨_, rfl⟩
  rw [← hb3]
  refine wp_world (fun wx => Frm [] w wx ∧ Blk wx b3 42 #[.int .i64 s.frm, .int .i64 s.dst, .int .u32 Q, .int .u32 A, .int .i64 16, .int .i64 s.window, .int .i64 s.mss, .string ⟨D.toArray⟩]) ⟨(Frm.refl _ _).alloc _, Blk.new_at hb3.symm _ _⟩ ?_
  rintro wx ⟨hfx, hx3⟩
  have hxx := HX.out.frm hfx (by simp) (by simp)
  have hne3 : b3 ≠ gx := by omega
  have hne3t : b3 ≠ gt := Blk.ne_ hx3 hxx.th (by decide)
  have HFX := Lib.hid hfx
  have HX3 := Lib.hid hx3
  have HXX := Lib.hid hxx
  have HB3 := Lib.hid hb3
  clear hfx hx3 hxx hb3 hglt
  have s2 : wx.cell? ⟨b3, 2, none⟩ = some (.int .u32 Q) := HX3.out.cell 2
  have s3 : wx.cell? ⟨b3, 3, none⟩ = some (.int .u32 A) := HX3.out.cell 3
  have s4 : wx.cell? ⟨b3, 4, none⟩ = some (.int .i64 16) := HX3.out.cell 4
  have c1 : wx.cell? ⟨gx, 1, none⟩ = some (.int .u32 irs) := HXX.out.blk.cell 1
  have c7 : wx.cell? ⟨gx, 7, none⟩ = some (.int .i64 (x.H : Int)) := HXX.out.blk.cell 7
  have f7 : wx.frozen? ⟨gx, 7, none⟩ = false := HXX.out.blk.frozen 7
  go_upto_region 3 with fail
  go_cut [] (fun wy => XIn iss irs give take wy gx gt (x.heard irs s) ∧ Frm [gx] wx wy)
  case first =>
    go_region_with fail
    all_goals
      go_wp2_with fail
      all_goals go_meet
      all_goals
        first
          | (have z := XIn.heardw (s := s) HXX.out V (by rw [HHD.out]; omega); exact ⟨z.1.drew, z.2.drew⟩)
          | (have z := XIn.heardw (s := s) HXX.out (x.H : Int) (by rw [HHD.out]; omega); exact ⟨z.1.drew, z.2.drew⟩)
  case rest =>
    obtain ⟨hxh, hfh⟩ := hcut
    have hb3 := HX3.out.frm hfh (by simpa using hne3)
    have HXH := Lib.hid hxh
    have HFH := Lib.hid hfh
    have HB := Lib.hid hb3
    clear s2 s3 s4 c1 c7 f7 hxh hfh hV HV
    have s4 : wc.cell? ⟨b3, 4, none⟩ = some (.int .i64 16) := hb3.cell 4
    have s0 : wc.cell? ⟨b3, 0, none⟩ = some (.int .i64 s.frm) := hb3.cell 0
    have s1 : wc.cell? ⟨b3, 1, none⟩ = some (.int .i64 s.dst) := hb3.cell 1
    have s2 : wc.cell? ⟨b3, 2, none⟩ = some (.int .u32 Q) := hb3.cell 2
    have s3 : wc.cell? ⟨b3, 3, none⟩ = some (.int .u32 A) := hb3.cell 3
    have s5 : wc.cell? ⟨b3, 5, none⟩ = some (.int .i64 s.window) := hb3.cell 5
    have s6 : wc.cell? ⟨b3, 6, none⟩ = some (.int .i64 s.mss) := hb3.cell 6
    have s7 : wc.cell? ⟨b3, 7, none⟩ = some (.string ⟨D.toArray⟩) := hb3.cell 7
    have hlen : Sg.len ⟨s.frm, s.dst, Q, A, 16, s.window, s.mss, D⟩ = 0 := by unfold Sg.len; rw [HD.out, HDD.out]; rw [show hasF 16 2 = false from by kernel_rfl, show hasF 16 1 = false from by kernel_rfl]; rfl
    have HLEN := Lib.hid hlen
    have hdl : D.length ≤ 1000000 := by rw [HD.out, HDD.out]; decide
    have HDL := Lib.hid hdl
    clear hb3 hlen hdl
    go_wp2_with (go_at_call 41; refine (len_any ⟨s.frm, s.dst, Q, A, 16, s.window, s.mss, D⟩ _ HDL.out).mono ?_; rw [HLEN.out]; rintro e wb ⟨rfl, hfb⟩)
    refine bodyPost_ret (results_none rfl _ _ _) rfl ?_
    have hf : Frm [] wc wb := hfb
    exact ⟨rfl, HXH.out.frm hf (by simp) (by simp), (((HFX.out.mono (ex' := [gx, gt]) (fun i hi => by cases hi)).next HFH.out (fun i hi => .inl (one_in hi))).next hf (fun i hi => by cases hi))⟩

set_option maxRecDepth 100000 in
set_option maxHeartbeats 2000000 in
theorem xhears_18 {iss irs : Int} {give take : List UInt8} {gx gt : Nat} {x : EX} {s : Sg} (w : World) (h : XIn iss irs give take w gx gt x) (hH : x.H ≤ 3001) (hk : (ahd ((irs + 1) % 4294967296) s.ack).toNat ≤ 3001) (hfl : s.flags = 18) (hq : s.seq = iss) :
    Calls Try.prog 16 #[.pointer (some ⟨gx, 0, none⟩), .agg #[.int .i64 s.frm, .int .i64 s.dst, .int .u32 s.seq, .int .u32 s.ack, .int .i64 s.flags, .int .i64 s.window, .int .i64 s.mss, .string ⟨s.data.toArray⟩]] w fun e w' => e = .returned (.tuple #[]) ∧ XIn iss irs give take w' gx gt (x.heard irs s) ∧ Frm [gx, gt] w w' := by
  have HQI := Lib.hid hq
  clear hq
  obtain ⟨A, hA⟩ : ∃ A, A = s.ack := ⟨_, rfl⟩
  obtain ⟨Q, hQ⟩ : ∃ Q, Q = s.seq := ⟨_, rfl⟩
  obtain ⟨D, hD⟩ : ∃ D, D = s.data := ⟨_, rfl⟩
  rw [← hA, ← hQ, ← hD, hfl]
  have HD := Lib.hid hD
  have HFL := Lib.hid hfl
  have hV : IntKind.u32.wrap (A - IntKind.u32.wrap (irs + 1)) = ((ahd ((irs + 1) % 4294967296) s.ack).toNat : Int) := by rw [u32w, u32w, hA]; unfold ahd; omega
  have hHb : (x.H : Int) ≤ 3001 := by omega
  have hhd : ((x.heard irs s).H : Int) = max (x.H : Int) ((ahd ((irs + 1) % 4294967296) s.ack).toNat : Int) := by unfold EX.heard; show ((max x.H _ : Nat) : Int) = _; omega
  obtain ⟨V, hV2⟩ : ∃ V : Int, V = ((ahd ((irs + 1) % 4294967296) s.ack).toNat : Int) := ⟨_, rfl⟩
  rw [← hV2] at hV hhd
  have hV0 : 0 ≤ V := by omega
  have hV1 : V ≤ 3001 := by omega
  have hVW : IntKind.i64.wrap V = V := i64w (by omega) (by omega)
  have HHD := Lib.hid hhd
  have HV := Lib.hid hV
  have HX := Lib.hid h
  have HA := Lib.hid hA
  have HQ := Lib.hid hQ
  have hglt : gx < w.heap.size := h.blk.lt
  clear h hhd hA hQ hV2 hD hfl hk
  go_enter Try.func16, Try.ntmps16
  go_upto_region 1 with fail
  obtain ⟨b3, hb3⟩ : ∃ b3, b3 = w.heap.size := ⟨_, rfl⟩
  rw [← hb3]
  refine wp_world (fun wx => Frm [] w wx ∧ Blk wx b3 42 #[.int .i64 s.frm, .int .i64 s.dst, .int .u32 Q, .int .u32 A, .int .i64 18, .int .i64 s.window, .int .i64 s.mss, .string ⟨D.toArray⟩]) ⟨(Frm.refl _ _).alloc _, Blk.new_at hb3.symm _ _⟩ ?_
  rintro wx ⟨hfx, hx3⟩
  have hxx := HX.out.frm hfx (by simp) (by simp)
  have hne3 : b3 ≠ gx := by omega
  have hne3t : b3 ≠ gt := Blk.ne_ hx3 hxx.th (by decide)
  have HFX := Lib.hid hfx
  have HX3 := Lib.hid hx3
  have HXX := Lib.hid hxx
  have HB3 := Lib.hid hb3
  clear hfx hx3 hxx hb3 hglt
  have s2 : wx.cell? ⟨b3, 2, none⟩ = some (.int .u32 Q) := HX3.out.cell 2
  have s3 : wx.cell? ⟨b3, 3, none⟩ = some (.int .u32 A) := HX3.out.cell 3
  have s4 : wx.cell? ⟨b3, 4, none⟩ = some (.int .i64 18) := HX3.out.cell 4
  have c1 : wx.cell? ⟨gx, 1, none⟩ = some (.int .u32 irs) := HXX.out.blk.cell 1
  have c7 : wx.cell? ⟨gx, 7, none⟩ = some (.int .i64 (x.H : Int)) := HXX.out.blk.cell 7
  have f7 : wx.frozen? ⟨gx, 7, none⟩ = false := HXX.out.blk.frozen 7
  go_upto_region 3 with fail
  go_cut [] (fun wy => XIn iss irs give take wy gx gt (x.heard irs s) ∧ Frm [gx] wx wy)
  case first =>
    go_region_with fail
    all_goals
      go_wp2_with fail
      all_goals go_meet
      all_goals
        first
          | (have z := XIn.heardw (s := s) HXX.out V (by rw [HHD.out]; omega); exact ⟨z.1.drew, z.2.drew⟩)
          | (have z := XIn.heardw (s := s) HXX.out (x.H : Int) (by rw [HHD.out]; omega); exact ⟨z.1.drew, z.2.drew⟩)
  case rest =>
    obtain ⟨hxh, hfh⟩ := hcut
    have hb3 := HX3.out.frm hfh (by simpa using hne3)
    have HXH := Lib.hid hxh
    have HFH := Lib.hid hfh
    have HB := Lib.hid hb3
    clear s2 s3 s4 c1 c7 f7 hxh hfh hV HV
    have s4 : wc.cell? ⟨b3, 4, none⟩ = some (.int .i64 18) := hb3.cell 4
    have c0 : wc.cell? ⟨gx, 0, none⟩ = some (.int .u32 iss) := HXH.out.blk.cell 0
    have c11 : wc.cell? ⟨gx, 11, none⟩ = some (.bool false) := HXH.out.blk.cell 11
    have f11 : wc.frozen? ⟨gx, 11, none⟩ = false := HXH.out.blk.frozen 11
    have s2 : wc.cell? ⟨b3, 2, none⟩ = some (.int .u32 Q) := hb3.cell 2
    have hqi : (Q != iss) = false := by rw [HQ.out, HQI.out]; simp
    clear hb3
    go_upto_region 5 with fail
    go_cut [] (fun wy => wy = (wc.setCell ⟨gx, 11, none⟩ (.bool false)).drew)
    case first =>
      go_region_with fail
      all_goals
        go_wp2_with fail
        go_meet
        rfl
    case rest =>
      subst hcut
      go_wp2_with fail
      refine bodyPost_ret (results_none rfl _ _ _) rfl ?_
      have hf : Frm [gx] wc (wc.setCell ⟨gx, 11, none⟩ (.bool false)).drew := ((Frm.refl _ _).setCell (.inl (by simp)) _).drew
      exact ⟨rfl, ⟨((HXH.out.blk.set_ 11 _).as_ rfl).drew, (HXH.out.th.far (p := ⟨gx, 11, none⟩) (Ne.symm HXH.out.ne) _).drew, HXH.out.tl⟩, (((HFX.out.mono (ex' := [gx, gt]) (fun i hi => by cases hi)).next HFH.out (fun i hi => .inl (one_in hi))).next hf (fun i hi => .inl (one_in hi)))⟩

end Go.Proofs.Ytpmlojgngcllfaa
