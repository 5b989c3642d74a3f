/- ConnDone: the other end in memory, and what it says. -/
import Derived.Test.YtpmlojgngcllfaaConnDoneJ
namespace Go.Proofs.Ytpmlojgngcllfaa
open Go.RowKit Go

def exC (iss irs : Int) (give take : List UInt8) (gt : Nat) (x : EX) : Array Value :=
  #[.int .u32 iss, .int .u32 irs, .string ⟨give.toArray⟩, .string ⟨take.toArray⟩, .int .i64 (x.W : Int), .slice (some ⟨gt, 0, none⟩) (take.length + 1) (take.length + 1), .int .i64 (x.U : Int), .int .i64 (x.H : Int), .int .i64 x.most, .bool x.F, .bool false, .bool false, .bool false]
structure XIn (iss irs : Int) (give take : List UInt8) (w : World) (gx gt : Nat) (x : EX) : Prop where
  blk : Blk w gx 35 (exC iss irs give take gt x)
  th : Blk w gt 4 (bools x.th)
  tl : x.th.length = take.length + 1
theorem XIn.frm {iss irs : Int} {give take : List UInt8} {w w' : World} {gx gt : Nat} {x : EX} {ex : List Nat} (h : XIn iss irs give take w gx gt x) (hf : Frm ex w w') (h1 : ¬ gx ∈ ex) (h2 : ¬ gt ∈ ex) : XIn iss irs give take w' gx gt x :=
  ⟨h.blk.frm hf h1, h.th.frm hf h2, h.tl⟩
theorem XIn.ne {iss irs : Int} {give take : List UInt8} {w : World} {gx gt : Nat} {x : EX} (h : XIn iss irs give take w gx gt x) : gx ≠ gt := Blk.ne_ h.blk h.th (by decide)

theorem u32w (z : Int) : IntKind.u32.wrap z = z % 4294967296 := by simp [IntKind.wrap, IntKind.signed, IntKind.bits]
theorem XIn.sayw {iss irs : Int} {give take : List UInt8} {w : World} {gx gt : Nat} {x : EX} (h : XIn iss irs give take w gx gt x) (m : Int) (hm : m = max x.most 1000) : XIn iss irs give take (w.setCell ⟨gx, 8, none⟩ (.int .i64 m)) gx gt x.say ∧ Frm [gx] w (w.setCell ⟨gx, 8, none⟩ (.int .i64 m)) := by
  subst hm
  exact ⟨⟨(h.blk.set_ 8 _).as_ rfl, h.th.far (p := ⟨gx, 8, none⟩) (Ne.symm h.ne) _, h.tl⟩, (Frm.refl _ _).setCell (.inl (by simp)) _⟩
set_option maxRecDepth 100000 in
set_option maxHeartbeats 2000000 in
theorem xsays_in {iss irs : Int} {give take : List UInt8} {gx gt : Nat} {x : EX} (w : World) (h : XIn iss irs give take w gx gt x) (i0 : 0 ≤ iss) (i1 : iss < 4294967296) (j0 : 0 ≤ irs) (j1 : irs < 4294967296) (hG : give.length ≤ 3000) (hU : x.U ≤ 3000) (hH : x.H ≤ 3001) :
    Calls Try.prog 17 #[.pointer (some ⟨gx, 0, none⟩), .int .i64 (x.H : Int), .int .i64 100, .int .i64 1000] w fun e w' =>
      e = .returned (.agg #[.int .i64 9, .int .i64 10, .int .u32 ((irs + 1 + ((min x.H give.length : Nat) : Int)) % 4294967296), .int .u32 ((iss + 1 + ((x.U + (if x.F then 1 else 0) : Nat) : Int)) % 4294967296), .int .i64 16, .int .i64 1000, .int .i64 0, .string ⟨((give.drop x.H).take 100).toArray⟩]) ∧
        XIn iss irs give take w' gx gt x.say ∧ Frm [gx] w w' := by
  have c0 : w.cell? ⟨gx, 0, none⟩ = some (.int .u32 iss) := h.blk.cell 0
  have c1 : w.cell? ⟨gx, 1, none⟩ = some (.int .u32 irs) := h.blk.cell 1
  have c2 : w.cell? ⟨gx, 2, none⟩ = some (.string ⟨give.toArray⟩) := h.blk.cell 2
  have c6 : w.cell? ⟨gx, 6, none⟩ = some (.int .i64 (x.U : Int)) := h.blk.cell 6
  have c8 : w.cell? ⟨gx, 8, none⟩ = some (.int .i64 x.most) := h.blk.cell 8
  have c9 : w.cell? ⟨gx, 9, none⟩ = some (.bool x.F) := h.blk.cell 9
  have f8 : w.frozen? ⟨gx, 8, none⟩ = false := h.blk.frozen 8
  have hsz : (ByteArray.mk give.toArray).size = give.length := by simp [ByteArray.size]
  obtain ⟨a, ha⟩ : ∃ a, a = min x.H give.length := ⟨_, rfl⟩
  obtain ⟨b, hb⟩ : ∃ b, b = min (a + 100) give.length := ⟨_, rfl⟩
  have HX := Lib.hid h
  have HA := Lib.hid ha
  have HB := Lib.hid hb
  have HI := Lib.hid (show 0 ≤ iss ∧ iss < 4294967296 from ⟨i0, i1⟩)
  have HJ := Lib.hid (show 0 ≤ irs ∧ irs < 4294967296 from ⟨j0, j1⟩)
  have HU := Lib.hid hU
  have HH := Lib.hid hH
  rw [← ha]
  obtain ⟨E, hE⟩ : ∃ E, E = x.U + (if x.F then 1 else 0) := ⟨_, rfl⟩
  rw [← hE]
  have HE := Lib.hid hE
  clear hE
  have hglt : gx < w.heap.size := h.blk.lt
  clear h ha hb i0 i1 j0 j1
  go_enter Try.func17, Try.ntmps17
  go_upto_region 1 with fail
  obtain ⟨b8, hb8⟩ : ∃ b8, b8 = w.heap.size := ⟨_, rfl⟩
  rw [← hb8]
  refine wp_world (fun wx => Frm [] w wx ∧ Blk wx b8 42 #[.int .i64 0, .int .i64 0, .int .u32 0, .int .u32 0, .int .i64 0, .int .i64 0, .int .i64 0, .string ⟨#[]⟩]) ⟨(Frm.refl _ _).alloc _, Blk.new_at hb8.symm _ _⟩ ?_
  rintro wx ⟨hfx, hx8⟩
  have hxx := HX.out.frm hfx (by simp) (by simp)
  have hne8 : b8 ≠ gx := by omega
  have HFX := Lib.hid hfx
  have HX8 := Lib.hid hx8
  have HXX := Lib.hid hxx
  have HB8 := Lib.hid hb8
  clear c0 c1 c2 c6 c8 c9 f8 hfx hx8 hxx hglt hb8
  have c2 : wx.cell? ⟨gx, 2, none⟩ = some (.string ⟨give.toArray⟩) := HXX.out.blk.cell 2
  go_cut [1] (fun y wy => y = .int .i64 (a : Int) ∧ wx = wy)
  case first =>
    go_wp2_with fail
    all_goals go_meet
    all_goals exact ⟨by rw [HA.out]; congr 1; omega, rfl⟩
  case rest =>
    obtain ⟨rfl, rfl⟩ := hcut
    go_upto_region 2 with fail
    go_cut [9] (fun y wy => y = .int .i64 (b : Int) ∧ wx = wy)
    case first =>
      have ha3 : a ≤ 3000 := by have := HA.out; omega
      go_wp2_with fail
      all_goals go_meet
      all_goals exact ⟨by rw [HB.out]; congr 1; omega, rfl⟩
    case rest =>
      obtain ⟨rfl, rfl⟩ := hcut
      clear c2
      have c0 : wx.cell? ⟨gx, 0, none⟩ = some (.int .u32 iss) := HXX.out.blk.cell 0
      have c6 : wx.cell? ⟨gx, 6, none⟩ = some (.int .i64 (x.U : Int)) := HXX.out.blk.cell 6
      obtain ⟨u, hu⟩ : ∃ u : Int, u = (x.U : Int) := ⟨_, rfl⟩
      rw [← hu] at c6
      have HUU := Lib.hid hu
      clear hu
      go_upto_region 3 with fail
      go_cut [10] (fun y wy => y = .int .u32 ((iss + 1 + u) % 4294967296) ∧ Drw wx wy)
      case first =>
        go_quiet (fail)
        go_wp2_with fail
        go_meet
        refine ⟨?_, Drw.mk _ _⟩
        congr 1
        omega
      case rest =>
        obtain ⟨rfl, hdr⟩ := hcut
        have hfr := hdr.frm
        have c9 : wc.cell? ⟨gx, 9, none⟩ = some (.bool x.F) := (HXX.out.frm hfr (by simp) (by simp)).blk.cell 9
        clear hdr c0 c6
        have HFR := Lib.hid hfr
        clear hfr
        go_upto_if 41 with fail
        go_cut [10] (fun y wy => y = .int .u32 ((iss + 1 + (E : Int)) % 4294967296) ∧ wc = wy)
        case first =>
          cases hF : x.F
          · rw [hF] at c9
            go_wp2_with fail
            go_meet
            refine ⟨?_, rfl⟩
            rw [HUU.out, HE.out, hF]
            simp
          · rw [hF] at c9
            go_wp2_with fail
            go_meet
            refine ⟨?_, rfl⟩
            congr 1
            rw [HUU.out, HE.out, hF]
            simp
            omega
        case rest =>
          obtain ⟨rfl, rfl⟩ := hcut
          obtain ⟨K, hK⟩ : ∃ K : Int, K = (iss + 1 + (E : Int)) % 4294967296 := ⟨_, rfl⟩
          rw [← hK]
          have HK := Lib.hid hK
          have c8 : wc.cell? ⟨gx, 8, none⟩ = some (.int .i64 x.most) := (HXX.out.frm HFR.out (by simp) (by simp)).blk.cell 8
          have f8 : wc.frozen? ⟨gx, 8, none⟩ = false := (HXX.out.frm HFR.out (by simp) (by simp)).blk.frozen 8
          clear hK c9
          go_upto_region 6 with fail
          go_cut [] (fun wy => XIn iss irs give take wy gx gt x.say ∧ Frm [gx] wc wy)
          case first =>
            go_wp2_with fail
            all_goals go_meet
            all_goals exact XIn.sayw (HXX.out.frm HFR.out (by simp) (by simp)) _ (by omega)
          case rest =>
            obtain ⟨hxs, hfs⟩ := hcut
            have hb8 := HX8.out.frm HFR.out (by simp)
            have hb9 := hb8.frm hfs (by simpa using hne8)
            have c1 := hxs.blk.cell 1
            have c2 := hxs.blk.cell 2
            have e0 := hb9.cell 0
            have e1 := hb9.cell 1
            have e2 := hb9.cell 2
            have e3 := hb9.cell 3
            have e4 := hb9.cell 4
            have e5 := hb9.cell 5
            have e6 := hb9.cell 6
            have e7 := hb9.cell 7
            have g0 := hb9.frozen 0
            have g1 := hb9.frozen 1
            have g2 := hb9.frozen 2
            have g3 := hb9.frozen 3
            have g4 := hb9.frozen 4
            have g5 := hb9.frozen 5
            have g6 := hb9.frozen 6
            have g7 := hb9.frozen 7
            simp only [exC, List.getElem?_toArray, List.getElem?_cons_succ, List.getElem?_cons_zero] at c1 c2 e0 e1 e2 e3 e4 e5 e6 e7
            have ha3 : a ≤ give.length := by have := HA.out; omega
            have hab : a ≤ b := by have := HA.out; have := HB.out; omega
            have hbg : b ≤ give.length := by have := HB.out; omega
            obtain ⟨A, hA2⟩ : ∃ A : Int, A = (a : Int) := ⟨_, rfl⟩
            have HA2 := Lib.hid hA2
            have HXS := Lib.hid hxs
            have HFS := Lib.hid hfs
            have HB9 := Lib.hid hb9
            clear hxs hfs hb8 hb9
            go_upto_region 7 with fail
            have hsq : IntKind.u32.wrap (IntKind.u32.wrap (irs + 1) + IntKind.u32.wrap (a : Int)) = (irs + 1 + (a : Int)) % 4294967296 := by rw [u32w, u32w, u32w]; omega
            have hda : (⟨give.toArray⟩ : ByteArray).extract a b = ⟨((give.drop x.H).take 100).toArray⟩ := by
              rw [ba_extract]
              congr 2
              have := HA.out
              have := HB.out
              rcases (by omega : x.H ≤ give.length ∨ give.length < x.H) with h1 | h1
              · have e1 : a = x.H := by omega
                rw [e1, show b - x.H = min 100 (give.drop x.H).length from by rw [List.length_drop]; omega]
                rw [Nat.min_def]
                split
                · rfl
                · rw [List.take_of_length_le (Nat.le_refl _), List.take_of_length_le (by omega)]
              · rw [List.drop_of_length_le (by omega), List.drop_of_length_le (by omega)]
                simp
            have HSQ := Lib.hid hsq
            have HDA := Lib.hid hda
            have hz : ∀ wz, wz = ((((((((wc.setCell ⟨b8, 0, none⟩ (.int .i64 9)).setCell ⟨b8, 1, none⟩ (.int .i64 10)).setCell ⟨b8, 2, none⟩ (.int .u32 ((irs + 1 + (a : Int)) % 4294967296))).setCell ⟨b8, 3, none⟩ (.int .u32 K)).setCell ⟨b8, 4, none⟩ (.int .i64 16)).setCell ⟨b8, 5, none⟩ (.int .i64 1000)).setCell ⟨b8, 6, none⟩ (.int .i64 0)).setCell ⟨b8, 7, none⟩ (.string ⟨((give.drop x.H).take 100).toArray⟩)).drew → Blk wz b8 42 #[.int .i64 9, .int .i64 10, .int .u32 ((irs + 1 + (a : Int)) % 4294967296), .int .u32 K, .int .i64 16, .int .i64 1000, .int .i64 0, .string ⟨((give.drop x.H).take 100).toArray⟩] ∧ XIn iss irs give take wz gx gt x.say ∧ Frm [gx] w wz := by
              rintro wz rfl
              have hf : Frm [b8] wc (((((((((wc.setCell ⟨b8, 0, none⟩ (.int .i64 9)).setCell ⟨b8, 1, none⟩ (.int .i64 10)).setCell ⟨b8, 2, none⟩ (.int .u32 ((irs + 1 + (a : Int)) % 4294967296))).setCell ⟨b8, 3, none⟩ (.int .u32 K)).setCell ⟨b8, 4, none⟩ (.int .i64 16)).setCell ⟨b8, 5, none⟩ (.int .i64 1000)).setCell ⟨b8, 6, none⟩ (.int .i64 0)).setCell ⟨b8, 7, none⟩ (.string ⟨((give.drop x.H).take 100).toArray⟩)).drew) := ((((((((((Frm.refl _ _).setCell (.inl (by simp)) _).setCell (.inl (by simp)) _).setCell (.inl (by simp)) _).setCell (.inl (by simp)) _).setCell (.inl (by simp)) _).setCell (.inl (by simp)) _).setCell (.inl (by simp)) _).setCell (.inl (by simp)) _)).drew
              refine ⟨((((((((((HB9.out.set_ 0 _).set_ 1 _).set_ 2 _).set_ 3 _).set_ 4 _).set_ 5 _).set_ 6 _).set_ 7 _).drew).as_ rfl), HXS.out.frm hf (by simpa using Ne.symm hne8) ?_, ?_⟩
              · have := Blk.ne_ HXS.out.th HB9.out (by decide)
                simpa using this
              · refine Frm.next1 ?_ hf (.inr (by have := HB8.out; omega))
                exact (((HFX.out.mono (ex' := [gx]) fun i hi => by cases hi).next0 HFR.out)).next HFS.out fun i hi => .inl hi
            have HZ := Lib.hid hz
            clear hsq hda hz
            go_region_with fail
            all_goals
              go_wp2_with fail
              rw [HSQ.out, HDA.out]
              obtain ⟨hB, hX, hF⟩ := HZ.out _ rfl
              generalize ((((((((wc.setCell ⟨b8, 0, none⟩ (.int .i64 9)).setCell ⟨b8, 1, none⟩ (.int .i64 10)).setCell ⟨b8, 2, none⟩ (.int .u32 ((irs + 1 + (a : Int)) % 4294967296))).setCell ⟨b8, 3, none⟩ (.int .u32 K)).setCell ⟨b8, 4, none⟩ (.int .i64 16)).setCell ⟨b8, 5, none⟩ (.int .i64 1000)).setCell ⟨b8, 6, none⟩ (.int .i64 0)).setCell ⟨b8, 7, none⟩ (.string ⟨((give.drop x.H).take 100).toArray⟩)).drew = wz at *
              have z0 := hB.cell 0
              have z1 := hB.cell 1
              have z2 := hB.cell 2
              have z3 := hB.cell 3
              have z4 := hB.cell 4
              have z5 := hB.cell 5
              have z6 := hB.cell 6
              have z7 := hB.cell 7
              simp only [List.getElem?_toArray, List.getElem?_cons_succ, List.getElem?_cons_zero] at z0 z1 z2 z3 z4 z5 z6 z7
              refine bodyPost_ret (v := .agg #[.int .i64 9, .int .i64 10, .int .u32 ((irs + 1 + (a : Int)) % 4294967296), .int .u32 K, .int .i64 16, .int .i64 1000, .int .i64 0, .string ⟨((give.drop x.H).take 100).toArray⟩]) (by simp [results, Try.results17, go_sem, z0, z1, z2, z3, z4, z5, z6, z7]) rfl ?_
              exact ⟨by rw [HK.out], hX, hF⟩
end Go.Proofs.Ytpmlojgngcllfaa
