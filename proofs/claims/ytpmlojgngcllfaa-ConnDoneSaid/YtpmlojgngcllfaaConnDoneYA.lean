/- ConnDone: what the other end hears: a loud segment, flags 24. -/
import Derived.Test.YtpmlojgngcllfaaConnDoneY
namespace Go.Proofs.Ytpmlojgngcllfaa
open Go.RowKit Go
set_option maxRecDepth 100000 in
set_option maxHeartbeats 20000000 in
theorem xhears_24 {iss irs : Int} {give take : List UInt8} {gx gt : Nat} {x : EX} {s : Sg} (w : World) (h : XIn iss irs give take w gx gt x) (hH : x.H ≤ 3001) (hk : (ahd ((irs + 1) % 4294967296) s.ack).toNat ≤ 3001) {a : Nat} (hfl : s.flags = 24) (i0 : 0 ≤ iss) (i1 : iss < 4294967296) (hq : s.seq = (iss + 1 + (a : Int)) % 4294967296) (hT : take.length ≤ 3000) (haW : a + s.data.length ≤ x.W) (hW : x.W ≤ take.length) (hUW : x.U ≤ x.W) (hd : s.data = (take.drop a).take s.data.length) (hl : s.data.length ≤ 100) (hl0 : 0 < s.data.length) (hmo : x.most = 1000) (hnear : a + s.data.length ≤ x.U + 1000) :
    Calls Try.prog 16 #[.pointer (some ⟨gx, 0, none⟩), .agg #[.int .i64 s.frm, .int .i64 s.dst, .int .u32 s.seq, .int .u32 s.ack, .int .i64 s.flags, .int .i64 s.window, .int .i64 s.mss, .string ⟨s.data.toArray⟩]] w fun e w' => e = .returned (.tuple #[]) ∧ XIn iss irs give take w' gx gt ((x.heard irs s).mark a s) ∧ Frm [gx, gt] w w' := by
  have HQS := Lib.hid hq
  have HDS := Lib.hid hd
  have HI := Lib.hid (show 0 ≤ iss ∧ iss < 4294967296 from ⟨i0, i1⟩)
  have HMO := Lib.hid hmo
  have HT := Lib.hid hT
  have HAW := Lib.hid haW
  have HWT := Lib.hid hW
  have HUW := Lib.hid hUW
  have HL := Lib.hid hl
  have HN := Lib.hid hnear
  have HL0 := Lib.hid hl0
  clear hq hd i0 i1 hmo hT haW hW hUW hl hnear hl0
  obtain ⟨A, hA⟩ : ∃ A, A = s.ack := ⟨_, rfl⟩
  obtain ⟨Q, hQ⟩ : ∃ Q, Q = s.seq := ⟨_, rfl⟩
  obtain ⟨D, hD⟩ : ∃ D, D = s.data := ⟨_, rfl⟩
  rw [← hA, ← hQ, ← hD, hfl]
  have HD := Lib.hid hD
  have HFL := Lib.hid hfl
  have hV : IntKind.u32.wrap (A - IntKind.u32.wrap (irs + 1)) = ((ahd ((irs + 1) % 4294967296) s.ack).toNat : Int) := by rw [u32w, u32w, hA]; unfold ahd; omega
  have hHb : (x.H : Int) ≤ 3001 := by omega
  have hhd : ((x.heard irs s).H : Int) = max (x.H : Int) ((ahd ((irs + 1) % 4294967296) s.ack).toNat : Int) := by unfold EX.heard; show ((max x.H _ : Nat) : Int) = _; omega
  obtain ⟨V, hV2⟩ : ∃ V : Int, V = ((ahd ((irs + 1) % 4294967296) s.ack).toNat : Int) := ⟨_, rfl⟩
  rw [← hV2] at hV hhd
  have hV0 : 0 ≤ V := by omega
  have hV1 : V ≤ 3001 := by omega
  have hVW : IntKind.i64.wrap V = V := i64w (by omega) (by omega)
  have HHD := Lib.hid hhd
  have HV := Lib.hid hV
  have HX := Lib.hid h
  have HA := Lib.hid hA
  have HQ := Lib.hid hQ
  have hglt : gx < w.heap.size := h.blk.lt
  clear h hhd hA hQ hV2 hD hfl hk
  go_enter Try.func16, Try.ntmps16
  go_upto_region 1 with fail
  obtain ⟨b3, hb3⟩ : ∃ b3, b3 = w.heap.size := ⟨_, rfl⟩
  rw [← hb3]
  refine wp_world (fun wx => Frm [] w wx ∧ Blk wx b3 42 #[.int .i64 s.frm, .int .i64 s.dst, .int .u32 Q, .int .u32 A, .int .i64 24, .int .i64 s.window, .int .i64 s.mss, .string ⟨D.toArray⟩]) ⟨(Frm.refl _ _).alloc _, Blk.new_at hb3.symm _ _⟩ ?_
  rintro wx ⟨hfx, hx3⟩
  have hxx := HX.out.frm hfx (by simp) (by simp)
  have hne3 : b3 ≠ gx := by omega
  have hne3t : b3 ≠ gt := Blk.ne_ hx3 hxx.th (by decide)
  have HFX := Lib.hid hfx
  have HX3 := Lib.hid hx3
  have HXX := Lib.hid hxx
  have HB3 := Lib.hid hb3
  clear hfx hx3 hxx hb3 hglt
  have s2 : wx.cell? ⟨b3, 2, none⟩ = some (.int .u32 Q) := HX3.out.cell 2
  have s3 : wx.cell? ⟨b3, 3, none⟩ = some (.int .u32 A) := HX3.out.cell 3
  have s4 : wx.cell? ⟨b3, 4, none⟩ = some (.int .i64 24) := HX3.out.cell 4
  have c1 : wx.cell? ⟨gx, 1, none⟩ = some (.int .u32 irs) := HXX.out.blk.cell 1
  have c7 : wx.cell? ⟨gx, 7, none⟩ = some (.int .i64 (x.H : Int)) := HXX.out.blk.cell 7
  have f7 : wx.frozen? ⟨gx, 7, none⟩ = false := HXX.out.blk.frozen 7
  go_upto_region 3 with fail
  go_cut [] (fun wy => XIn iss irs give take wy gx gt (x.heard irs s) ∧ Frm [gx] wx wy)
  case first =>
    go_region_with fail
    all_goals
      go_wp2_with fail
      all_goals go_meet
      all_goals
        first
          | (have z := XIn.heardw (s := s) HXX.out V (by rw [HHD.out]; omega); exact ⟨z.1.drew, z.2.drew⟩)
          | (have z := XIn.heardw (s := s) HXX.out (x.H : Int) (by rw [HHD.out]; omega); exact ⟨z.1.drew, z.2.drew⟩)
  case rest =>
    obtain ⟨hxh, hfh⟩ := hcut
    have hb3 := HX3.out.frm hfh (by simpa using hne3)
    have HXH := Lib.hid hxh
    have HFH := Lib.hid hfh
    have HB := Lib.hid hb3
    clear s2 s3 s4 c1 c7 f7 hxh hfh hV HV
    have s4 : wc.cell? ⟨b3, 4, none⟩ = some (.int .i64 24) := hb3.cell 4
    have s0 : wc.cell? ⟨b3, 0, none⟩ = some (.int .i64 s.frm) := hb3.cell 0
    have s1 : wc.cell? ⟨b3, 1, none⟩ = some (.int .i64 s.dst) := hb3.cell 1
    have s2 : wc.cell? ⟨b3, 2, none⟩ = some (.int .u32 Q) := hb3.cell 2
    have s3 : wc.cell? ⟨b3, 3, none⟩ = some (.int .u32 A) := hb3.cell 3
    have s5 : wc.cell? ⟨b3, 5, none⟩ = some (.int .i64 s.window) := hb3.cell 5
    have s6 : wc.cell? ⟨b3, 6, none⟩ = some (.int .i64 s.mss) := hb3.cell 6
    have s7 : wc.cell? ⟨b3, 7, none⟩ = some (.string ⟨D.toArray⟩) := hb3.cell 7
    have hlen : Sg.len ⟨s.frm, s.dst, Q, A, 24, s.window, s.mss, D⟩ = (D.length : Int) + 0 := by unfold Sg.len; rw [show hasF 24 2 = false from by kernel_rfl, show hasF 24 1 = false from by kernel_rfl]; simp
    have HLEN := Lib.hid hlen
    have hdl : D.length ≤ 1000000 := by rw [HD.out]; have := HL.out; omega
    have HDL := Lib.hid hdl
    clear hlen
    obtain ⟨L, hL⟩ : ∃ L, L = D.length := ⟨_, rfl⟩
    have hL1 : L ≤ 100 := by rw [hL, HD.out]; exact HL.out
    have hLe : L = s.data.length := by rw [hL, HD.out]
    have hq0 : ((D.length : Int) + 0 == 0) = false := by simp; rw [HD.out]; have := HL0.out; intro h9; rw [h9] at this; simp at this
    have HQ0 := Lib.hid hq0
    have HLL := Lib.hid hL
    have HLE := Lib.hid hLe
    clear hb3 hdl hL hq0 hLe
    go_upto_region 7 with (go_at_call 41; refine (len_any ⟨s.frm, s.dst, Q, A, 24, s.window, s.mss, D⟩ _ HDL.out).mono ?_; rw [HLEN.out]; rintro e wb ⟨rfl, hfb⟩; have hq1 := HQ0.out)
    have hfc : Frm [] wc wb := hfb
    refine wp_world (fun wd => Frm [] wc wd) hfc ?_
    clear hfb hfc s0 s1 s2 s3 s4 s5 s6 s7
    intro wd hfd
    have HFD := Lib.hid hfd
    clear hfd
    have hxd := HXH.out.frm HFD.out (by simp) (by simp)
    have hbd := HB.out.frm HFD.out (by simp)
    have c0 : wd.cell? ⟨gx, 0, none⟩ = some (.int .u32 iss) := hxd.blk.cell 0
    have s2 : wd.cell? ⟨b3, 2, none⟩ = some (.int .u32 Q) := hbd.cell 2
    have HXD := Lib.hid hxd
    have HBD := Lib.hid hbd
    clear hxd hbd
    go_upto_region 7 with fail
    go_cut [4] (fun y wy => y = .int .i64 (a : Int) ∧ Drw wd wy)
    case first =>
      go_quiet (fail)
      go_wp2_with fail
      go_meet
      refine ⟨?_, Drw.mk _ _⟩
      congr 1
      rw [HQ.out, HQS.out]
      have := HAW.out
      have := HWT.out
      have := HT.out
      omega
    case rest =>
      obtain ⟨rfl, hdr⟩ := hcut
      have hfr := hdr.frm
      have hxd := HXD.out.frm hfr (by simp) (by simp)
      have hbd := HBD.out.frm hfr (by simp)
      have HFR := Lib.hid hfr
      have s7 : wc.cell? ⟨b3, 7, none⟩ = some (.string ⟨D.toArray⟩) := hbd.cell 7
      have s4 : wc.cell? ⟨b3, 4, none⟩ = some (.int .i64 24) := hbd.cell 4
      have c3 : wc.cell? ⟨gx, 3, none⟩ = some (.string ⟨take.toArray⟩) := hxd.blk.cell 3
      have c4 : wc.cell? ⟨gx, 4, none⟩ = some (.int .i64 (x.W : Int)) := hxd.blk.cell 4
      have c6 : wc.cell? ⟨gx, 6, none⟩ = some (.int .i64 (x.U : Int)) := hxd.blk.cell 6
      have c8 : wc.cell? ⟨gx, 8, none⟩ = some (.int .i64 1000) := by have h9 := hxd.blk.cell 8; rw [← HMO.out]; exact h9
      have HXC := Lib.hid hxd
      have HBC := Lib.hid hbd
      clear hdr c0 s2 hfr hxd hbd
      have hsz : (ByteArray.mk D.toArray).size = L := by rw [HLL.out]; simp [ByteArray.size]
      have hszt : (ByteArray.mk take.toArray).size = take.length := by simp [ByteArray.size]
      have haL : a + L ≤ x.W := by rw [HLE.out]; exact HAW.out
      have hWT : x.W ≤ take.length := HWT.out
      have hTT : take.length ≤ 3000 := HT.out
      have hnr : a + L ≤ x.U + 1000 := by rw [HLE.out]; exact HN.out
      have hex : (⟨take.toArray⟩ : ByteArray).extract a (a + L) = ⟨D.toArray⟩ := by
        rw [ba_extract, Nat.add_sub_cancel_left, HD.out, HLE.out, ← HDS.out]
      have hU3 : x.U ≤ 3000 := by have := HUW.out; omega
      have w1 : decide ((a : Int) < 0) = false := by simp
      have w2 : decide ((x.W : Int) < (a : Int) + (L : Int)) = false := by simp; omega
      have w3 : decide ((100 : Int) < (L : Int)) = false := by simp; omega
      have w4 : decide ((x.U : Int) + 1000 < (a : Int) + (L : Int)) = false := by simp; omega
      go_upto_region 9 with fail
      go_cut [109] (fun y wy => y = .bool false ∧ Drw wc wy)
      case first =>
        go_quiet (fail)
        go_wp2_with fail
        go_meet
        exact ⟨rfl, Drw.mk _ _⟩
      case rest =>
        obtain ⟨rfl, hdr⟩ := hcut
        have hxd := HXC.out.frm hdr.frm (by simp) (by simp)
        have hbd := HBC.out.frm hdr.frm (by simp)
        have HFR2 := Lib.hid hdr.frm
        have HXC := Lib.hid hxd
        have HBC := Lib.hid hbd
        clear s7 s4 c3 c4 c6 c8 hdr hxd hbd hex hnr w1 w2 w3 w4
        have htl : ((x.heard irs s).th.length) = take.length + 1 := HXC.out.tl
        have HTL := Lib.hid htl
        clear htl
        go_wp2_with fail
        go_loopg [6] L (fun gk i wy => ∃ m : Nat, m ≤ L ∧ gk = L - m ∧ i = .int .i64 ((a + m : Nat) : Int) ∧ XIn iss irs give take wy gx gt { x.heard irs s with th := paint x.th a m } ∧ Frm [gt] wc wy)
        case atStart => exact ⟨0, Nat.zero_le _, rfl, rfl, HXC.out, Frm.refl _ _⟩
        case round =>
          obtain ⟨m, hm, hgk, rfl, hxm, hfm⟩ := hrel
          by_cases hlt : m < L
          · have c5 : wr.cell? ⟨gx, 5, none⟩ = some (.slice (some ⟨gt, 0, none⟩) (take.length + 1) (take.length + 1)) := hxm.blk.cell 5
            have ham : a + m < (paint x.th a m).length := by rw [paint_len]; have := HTL.out; show a + m < x.th.length; have h9 : x.th.length = take.length + 1 := this; omega
            have d5 : wr.cell? ⟨gt, a + m, none⟩ = some (.bool ((paint x.th a m)[a + m])) := by
              rw [hxm.th.cell (a + m)]
              unfold bools
              rw [List.getElem?_toArray, List.getElem?_map, List.getElem?_eq_getElem ham]
              rfl
            have g5 : wr.frozen? ⟨gt, a + m, none⟩ = false := hxm.th.frozen (a + m)
            have HXM := Lib.hid hxm
            have HFM := Lib.hid hfm
            clear hxm hfm
            go_wp2_with fail
            go_roundg (L - (m + 1))
            case measure => omega
            case rel =>
              refine ⟨m + 1, by omega, rfl, by go_num, ⟨HXM.out.blk.far (p := ⟨gt, a + m, none⟩) HXM.out.ne _, HXM.out.th.set_to (a + m) _ (map_set9 Value.bool _ (a + m) true), by show ((paint x.th a m).set (a + m) true).length = _; rw [List.length_set]; exact HXM.out.tl⟩, HFM.out.setCell (.inl (by simp)) _⟩
          · obtain rfl : m = L := by omega
            have HXM := Lib.hid hxm
            have HFM := Lib.hid hfm
            clear hxm hfm
            obtain ⟨P, hP⟩ : ∃ P, P = paint x.th a m := ⟨_, rfl⟩
            have hxp : XIn iss irs give take wr gx gt { x.heard irs s with th := P } := by rw [hP]; exact HXM.out
            have HPP := Lib.hid hP
            have HXP := Lib.hid hxp
            have hpl : P.length = take.length + 1 := hxp.tl
            have HPL := Lib.hid hpl
            obtain ⟨R, hR⟩ : ∃ R, R = climb P x.W (x.W - x.U) x.U := ⟨_, rfl⟩
            have HR := Lib.hid hR
            have hRW : R ≤ x.W := by rw [hR]; exact (climb_ok P x.W (x.W - x.U) x.U HUW.out (by have := HUW.out; omega)).2.1
            clear hP hxp hpl hR hlt
            obtain ⟨w2, hw2⟩ : ∃ w2, w2 = wr := ⟨_, rfl⟩
            have hfm2 : Frm [gt] wc w2 := by rw [hw2]; exact HFM.out
            have HFM2 := Lib.hid hfm2
            clear hfm2
            go_wp2_with fail
            go_loopg [] (x.W - x.U) (fun gk wy => ∃ u : Nat, u ≤ x.W ∧ gk = x.W - u ∧ climb P x.W (x.W - u) u = R ∧ XIn iss irs give take wy gx gt { x.heard irs s with th := P, U := u } ∧ Frm [gx] w2 wy)
            case atStart => exact ⟨x.U, HUW.out, rfl, HR.out.symm, by exact HXP.out, by subst hw2; exact Frm.refl _ _⟩
            case round =>
              obtain ⟨u, hu, hgk2, hcl, hxu, hfu⟩ := hrel
              have c4 : wr.cell? ⟨gx, 4, none⟩ = some (.int .i64 (x.W : Int)) := hxu.blk.cell 4
              have c5 : wr.cell? ⟨gx, 5, none⟩ = some (.slice (some ⟨gt, 0, none⟩) (take.length + 1) (take.length + 1)) := hxu.blk.cell 5
              have c6 : wr.cell? ⟨gx, 6, none⟩ = some (.int .i64 (u : Int)) := hxu.blk.cell 6
              have f6 : wr.frozen? ⟨gx, 6, none⟩ = false := hxu.blk.frozen 6
              have f9 : wr.frozen? ⟨gx, 9, none⟩ = false := hxu.blk.frozen 9
              have huP : u < P.length := by rw [HPL.out]; omega
              have d5 : wr.cell? ⟨gt, u, none⟩ = some (.bool (P[u])) := by
                rw [hxu.th.cell u]
                unfold bools
                rw [List.getElem?_toArray, List.getElem?_map, List.getElem?_eq_getElem huP]
                rfl
              have hgd : P.getD u false = P[u] := by rw [List.getD_eq_getElem?_getD, List.getElem?_eq_getElem huP]; rfl
              have HXU := Lib.hid hxu
              have HFU := Lib.hid hfu
              have HCL := Lib.hid hcl
              have HGD := Lib.hid hgd
              clear hxu hfu hcl hgd
              have s4 : wr.cell? ⟨b3, 4, none⟩ = some (.int .i64 24) := ((HBC.out.frm HFM2.out (by simpa using hne3t)).frm HFU.out (by simpa using hne3)).cell 4
              have hall : Frm [gx, gt] w wr := (((((((HFX.out.mono (ex' := [gx, gt]) (fun i hi => by cases hi)).next HFH.out (fun i hi => .inl (one_in hi))).next HFD.out (fun i hi => by cases hi)).next HFR.out (fun i hi => by cases hi)).next HFR2.out (fun i hi => by cases hi)).next HFM2.out (fun i hi => .inl (List.mem_cons_of_mem _ hi))).next HFU.out (fun i hi => .inl (one_in hi)))
              have HALL := Lib.hid hall
              clear hall
              go_upto_region 15 with fail
              by_cases huW : u < x.W
              · have q1 : decide ((u : Int) < (x.W : Int)) = true := by simp; exact huW
                cases hpu : P[u]
                · rw [hpu] at d5
                  have hstop : R = u := by
                    have h9 := HCL.out
                    obtain ⟨z, hz⟩ : ∃ z, x.W - u = z + 1 := ⟨x.W - u - 1, by omega⟩
                    rw [hz] at h9
                    unfold climb at h9
                    rw [if_neg (by rw [HGD.out, hpu]; rintro ⟨-, h8⟩; cases h8)] at h9
                    exact h9.symm
                  have HS := Lib.hid hstop
                  clear hstop hpu
                  go_quiet (fail)
                  go_upto_region 17 with fail
                  refine wp_world (fun wz => Drw wr wz) (Drw.mk _ _) ?_
                  clear c4 c5 c6 f6 f9 d5 s4 q1
                  rintro wz hdz
                  obtain ⟨fz, hfz2⟩ : ∃ fz : Int, fz = 24 := ⟨_, rfl⟩
                  have r0 : (bits .and .i64 fz 1 != 0) = false := by rw [hfz2]; kernel_rfl
                  have s4 : wz.cell? ⟨b3, 4, none⟩ = some (.int .i64 fz) := by rw [hfz2]; exact ((((HBC.out.frm HFM2.out (by simpa using hne3t)).frm HFU.out (by simpa using hne3)).frm hdz.frm (by simp)).cell 4)
                  have hxz := HXU.out.frm hdz.frm (by simp) (by simp)
                  have HXZ := Lib.hid hxz
                  have hfz := HALL.out.next hdz.frm (fun i hi => by cases hi)
                  have HFZ := Lib.hid hfz
                  clear hdz hxz hfz hfz2
                  go_quiet (fail)
                  go_wp2_with fail
                  first
                    | go_end0
                    | refine bodyPost_ret (results_none rfl _ _ _) rfl ?_
                  exact ⟨rfl, by rw [mark24 (by rw [HPP.out, HLE.out]) (HS.out.symm.trans HR.out) HFL.out]; exact HXZ.out.frm (Drw.mk _ _).frm (by simp) (by simp), HFZ.out.next (Drw.mk _ _).frm (fun i hi => by cases hi)⟩
                · rw [hpu] at d5
                  have hgo : climb P x.W (x.W - (u + 1)) (u + 1) = R := by
                    have h9 := HCL.out
                    obtain ⟨z, hz⟩ : ∃ z, x.W - u = z + 1 := ⟨x.W - u - 1, by omega⟩
                    rw [hz] at h9
                    unfold climb at h9
                    rw [if_pos ⟨huW, by rw [HGD.out, hpu]⟩] at h9
                    rw [show x.W - (u + 1) = z from by omega]
                    exact h9
                  have HGO := Lib.hid hgo
                  clear hgo hpu
                  have hu3 : u ≤ 3000 := by omega
                  go_quiet (fail)
                  go_wp2_with fail
                  go_roundg (x.W - (u + 1))
                  case measure => omega
                  case rel => exact ⟨u + 1, by omega, rfl, HGO.out, ⟨((HXU.out.blk.drewN _).set_to 6 _ rfl), (HXU.out.th.drewN _).far (p := ⟨gx, 6, none⟩) (Ne.symm HXU.out.ne) _, HXU.out.tl⟩, (HFU.out.drewN _).setCell (.inl (by simp)) _⟩
              · obtain rfl : u = x.W := by omega
                have q1 : decide ((x.W : Int) < (x.W : Int)) = false := by simp
                have hstop : R = x.W := by
                  have h9 := HCL.out
                  rw [Nat.sub_self] at h9
                  exact h9.symm
                have HS := Lib.hid hstop
                clear hstop
                go_quiet (fail)
                go_upto_region 17 with fail
                refine wp_world (fun wz => Drw wr wz) (Drw.mk _ _) ?_
                clear c4 c5 c6 f6 f9 d5 s4 q1
                rintro wz hdz
                obtain ⟨fz, hfz2⟩ : ∃ fz : Int, fz = 24 := ⟨_, rfl⟩
                have r0 : (bits .and .i64 fz 1 != 0) = false := by rw [hfz2]; kernel_rfl
                have s4 : wz.cell? ⟨b3, 4, none⟩ = some (.int .i64 fz) := by rw [hfz2]; exact ((((HBC.out.frm HFM2.out (by simpa using hne3t)).frm HFU.out (by simpa using hne3)).frm hdz.frm (by simp)).cell 4)
                have hxz := HXU.out.frm hdz.frm (by simp) (by simp)
                have HXZ := Lib.hid hxz
                have hfz := HALL.out.next hdz.frm (fun i hi => by cases hi)
                have HFZ := Lib.hid hfz
                clear hdz hxz hfz hfz2
                go_quiet (fail)
                go_wp2_with fail
                first
                  | go_end0
                  | refine bodyPost_ret (results_none rfl _ _ _) rfl ?_
                exact ⟨rfl, by rw [mark24 (by rw [HPP.out, HLE.out]) (HS.out.symm.trans HR.out) HFL.out]; exact HXZ.out.frm (Drw.mk _ _).frm (by simp) (by simp), HFZ.out.next (Drw.mk _ _).frm (fun i hi => by cases hi)⟩
end Go.Proofs.Ytpmlojgngcllfaa
