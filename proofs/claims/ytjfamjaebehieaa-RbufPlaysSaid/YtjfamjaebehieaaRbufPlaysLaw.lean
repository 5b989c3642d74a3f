/- Proved: the statement Rows.RbufPlaysSaid: for every input the Go function blockyardlaw12.RbufPlays returns true and leaves its arguments as they were. Conditions: none beyond the row's own. -/
import Derived.Test.YtjfamjaebehieaaRows
import Derived.Test.YtjfamjaebehieaaRbufPlaysP
import Derived.WalkKit
import Derived.ProofKit
import Derived.OpenShut
import Derived.ShutString
import Derived.ChangeOld
import Derived.Below
namespace Go.Proofs.Ytjfamjaebehieaa.rbufPlays
open Go.ChangeShapes Go.WideShapes Go.ChangeAt Go.RowKit
open Go.ChangeMaps (open_string shut_string)
set_option linter.unusedVariables false

theorem own : ownKnob Try.prog.godebug = none := by kernel_rfl
theorem laidOut : laidOutB Try.prog = true := by kernel_rfl

theorem meas_lt {gk len k : Nat} (h : gk = len - k) (h2 : k < len) : len - (k + 1) < gk := by omega
theorem put_room (r : RB) (seq : Int) (l : List UInt8) : (r.put seq l).room = r.room := (RB.many_room r r.win seq l (min l.length 65536)).1
set_option maxRecDepth 100000 in
set_option maxHeartbeats 4000000 in
theorem walk (a0 : Int) (a1 : Int) (a2 : Option Addr) (len2 cap2 : Nat) (w : World) (w0 : (Lit.int .u32 a0).wf = true) (w1 : (Lit.int .i64 a1).wf = true) (z2 : _) (w2 : Acts w a2 len2 cap2 z2) : Calls Try.prog 5 #[.int .u32 a0, .int .i64 a1, .slice a2 len2 cap2] w fun e w' => e = .returned (.bool true) ∧ Below w.heap.size w w' := by
  obtain ⟨u0, u1⟩ := u32_of_wf w0
  obtain ⟨r0, r1⟩ := i64_of_wf w1
  clear w0 w1
  go_enter Try.func5, Try.ntmps5
  go_wp2_with (go_at_call 8; refine (awake_any _).mono ?_; rintro e w1 ⟨rfl, hf1⟩)
  refine (great_any a2 len2 cap2 z2 _ w w2 hf1).mono ?_
  rintro e w1' ⟨B, rfl, hB, rfl⟩
  rcases B with _ | _
  · obtain ⟨hB1, hB2⟩ := hB rfl
    clear hB
    obtain ⟨hlc, hcm, hel⟩ := w2
    have hlm : cap2 ≤ 9223372036854775807 := hcm
    clear hcm
    have HEL := Lib.hid hel
    clear hel
    by_cases hbad : a1 < 1 ∨ 2048 < a1
    · rcases hbad with hb1 | hb2
      · go_wp2_with fail
        refine (rnew_bad _ _ _ (.inl hb1)).mono ?_
        rintro e w3 ⟨rfl, rfl⟩
        go_wp2_with fail
        go_ret
        exact ⟨rfl, hf1.below (Nat.le_refl _) (by simp)⟩
      · go_wp2_with fail
        refine (rnew_bad _ _ _ (.inr hb2)).mono ?_
        rintro e w3 ⟨rfl, rfl⟩
        go_wp2_with fail
        go_ret
        exact ⟨rfl, hf1.below (Nat.le_refl _) (by simp)⟩
    · by_cases h3 : 300 < a1
      · have h4 : a1 ≤ 2048 := by omega
        go_wp2_with fail
        go_ret
        exact ⟨rfl, hf1.below (Nat.le_refl _) (by simp)⟩
      · have q1 : 1 ≤ a1 := by omega
        have q2 : a1 ≤ 300 := by omega
        obtain ⟨R, rfl⟩ := Int.eq_ofNat_of_zero_le (show 0 ≤ a1 by omega)
        have q4 : 1 ≤ R := by omega
        have q5 : R ≤ 300 := by omega
        have q6 : R ≤ 2048 := by omega
        have hrr0 := RR.start q4 q6 u0 u1
        have HRR0 := Lib.hid hrr0
        clear hrr0 q6 hbad h3
        go_wp2_with fail
        refine (rnew_ok a0 R _ q4 (by omega)).mono ?_
        rintro e wa ⟨G1, gd0, gh0, rfl, hg1, hg2, hg3, hb0, hf0⟩
        obtain ⟨B, hB⟩ : ∃ B, B = w1.heap.size := ⟨_, rfl⟩
        rw [← hB] at hb0 hg1 hg2 hg3
        have hlt0 : w.heap.size ≤ B := hB ▸ hf1.size
        have hlt1 : B ≤ wa.heap.size := hB ▸ hf0.size
        have hfr0 := hf1.next0 hf0
        clear hf0 hf1 hB
        go_upto_region 11 with fail
        obtain ⟨G2, hG2⟩ : ∃ G2, G2 = wa.heap.size := ⟨_, rfl⟩
        rw [← hG2]
        refine wp_world (fun wx => PQ w wx B G1 G2 gd0 gh0 (.slice none 0 0) (RB.start R a0) (.slice none 0 0) []) ⟨hfr0.alloc _, hb0.frm ((Frm.refl [] _).alloc _) (by simp) (by simp) (by simp) (by simp), Blk.new_at hG2.symm _ _, ⟨rfl, .inl ⟨rfl, rfl⟩⟩, HRR0.out, q5, ⟨hlt0, by simp; omega, hg1, hg2, hg3, by omega⟩⟩ ?_
        clear hb0 hfr0 HRR0 hG2 hlt0 hlt1 hg1 hg2 hg3
        intro wx hps0
        have HPS0 := Lib.hid hps0
        clear hps0
        go_wp2_with fail
        go_loopg [10] (len2 - 0) (fun gk i wr => ∃ (k : Nat) (gd gh : Nat) (rv : Value) (r : RB) (v : Value) (h : List (Int × UInt8)), k ≤ len2 ∧ gk = len2 - k ∧ i = .int .i64 (k : Int) ∧ PQ w wr B G1 G2 gd gh rv r v h)
        case atStart => exact ⟨0, _, _, _, _, _, _, by omega, rfl, rfl, HPS0.out⟩
        case round =>
          clear HPS0
          obtain ⟨k, gd, gh, rv, r, v, h, hk, hgk, rfl, hps⟩ := hrel
          by_cases hlt : k < len2
          · obtain ⟨bb, o, rfl, hbl, hat⟩ := HEL.out (by omega)
            obtain ⟨c0, c1, c2, c3, c4, hN, hsm⟩ := hat k hlt
            have hfr := hps.frm
            have d0 := (hfr.cell (p := ⟨bb, o + k * 5, none⟩) hbl (by simp)).trans c0
            have d1 := (hfr.cell (p := ⟨bb, o + k * 5 + 1, none⟩) hbl (by simp)).trans c1
            have d2 := (hfr.cell (p := ⟨bb, o + k * 5 + 2, none⟩) hbl (by simp)).trans c2
            have d3 := (hfr.cell (p := ⟨bb, o + k * 5 + 3, none⟩) hbl (by simp)).trans c3
            have d4 := (hfr.cell (p := ⟨bb, o + k * 5 + 4, none⟩) hbl (by simp)).trans c4
            clear c0 c1 c2 c3 c4 hat hfr
            generalize z2 k = x at *
            obtain ⟨xd, xn, xb, xm, xs⟩ := x
            simp only at d0 d1 d2 d3 d4 hN hsm
            have HSM := Lib.hid hsm
            have HN := Lib.hid hN
            clear hsm hN
            go_upto_region 15 with fail
            obtain ⟨Ga, hGa⟩ : ∃ Ga, Ga = wr.heap.size := ⟨_, rfl⟩
            rw [← hGa]
            refine wp_world (fun wx => PQ w wx B G1 G2 gd gh rv r v h ∧ Blk wx Ga 41 #[.int .i64 xd, .int .u32 xn, .bool xb, .int .i64 xm, .string ⟨xs.toArray⟩]) ⟨hps.frm_ ((Frm.refl _ _).alloc _), Blk.new_at hGa.symm _ _⟩ ?_
            have HK := Lib.hid hk
            clear hps hGa d0 d1 d2 d3 d4 hbl
            rintro wy ⟨hps, hba⟩
            obtain ⟨k0, k1, k2, k3, f0, f1, f2, f3, hl2⟩ := hps.rules
            have b0 : wy.cell? ⟨Ga, 0, none⟩ = some (.int .i64 xd) := hba.cell 0
            have b1 : wy.cell? ⟨Ga, 1, none⟩ = some (.int .u32 xn) := hba.cell 1
            have b2 : wy.cell? ⟨Ga, 2, none⟩ = some (.bool xb) := hba.cell 2
            go_upto_if 65 with fail
            go_cut [12] (fun aa wz => aa = .int .u32 (if xb = true then (r.next + xn) % 4294967296 else xn) ∧ wy = wz)
            case first =>
              have HP := Lib.hid hps
              have HB := Lib.hid hba
              clear hps hba
              rcases xb with _ | _
              · go_wp2_with fail
                go_meet
                exact ⟨rfl, rfl⟩
              · go_wp2_with fail
                go_meet
                exact ⟨rfl, rfl⟩
            case rest =>
              obtain ⟨rfl, rfl⟩ := hcut
              have hNN : 0 ≤ (if xb = true then (r.next + xn) % 4294967296 else xn) ∧ (if xb = true then (r.next + xn) % 4294967296 else xn) < 4294967296 := by
                have := HN.out
                split <;> omega
              generalize (if xb = true then (r.next + xn) % 4294967296 else xn) = M at *
              have HNN := Lib.hid hNN
              clear hNN
              have b3 : wy.cell? ⟨Ga, 3, none⟩ = some (.int .i64 xm) := hba.cell 3
              have b4 : wy.cell? ⟨Ga, 4, none⟩ = some (.string ⟨xs.toArray⟩) := hba.cell 4
              have HPS := Lib.hid hps
              have HBA := Lib.hid hba
              have hne9 : Ga ≠ G2 := Blk.ne_ hba hps.rf (by decide)
              have hsm := hps.small
              obtain ⟨hh1, hh2, -, -⟩ := hps.hlen
              have HH1 := Lib.hid hh1
              have HH2 := Lib.hid hh2
              clear hps hba b1 b2 hh1 hh2
              go_upto_block 2 with fail
              go_cut [] (fun wz => ∃ gd gh rv r v h, PQ w wz B G1 G2 gd gh rv r v h)
              case first =>
                by_cases h0 : xd = 0
                · have t0 : (xd == 0) = true := by simpa using h0
                  clear h0
                  go_wp2_with fail
                  refine (rput12_any w.heap.size (r.room : Int) r.next M r.ready v h xs _ HPS.out.own (by have := HH1.out; omega) (by omega) (by omega) (by have := HH2.out; omega) HPS.out.rr.ok.n1 HPS.out.rr.ok.n2 HNN.out.1 HNN.out.2 HSM.out).mono ?_
                  rintro e wb ⟨s0, kk, v', hs0, hend, hall, rfl, ho', hf'⟩
                  obtain ⟨hkk, hnx, hrd, hrr⟩ := HPS.out.rr.put M xs hs0 hend hall
                  have ho2 := ho'.base HPS.out.frm.size
                  rw [hnx, hrd]
                  obtain ⟨A', N', cap', hv'⟩ : ∃ A N cap, v' = .slice A N cap := by obtain ⟨A, cap, h, -⟩ := ho'.form; exact ⟨A, _, cap, h⟩
                  subst hv'
                  subst hkk
                  have HO2 := Lib.hid ho2
                  have HRR := Lib.hid hrr
                  clear hs0 hend hall ho' hnx hrd ho2 hrr
                  obtain ⟨m0, m1, m2, m3, g0, g1, g2, g3, hl9⟩ := (HPS.out.frm_ hf').rules
                  have hb9 := HBA.out.frm hf' (by simp)
                  have j3 : wb.cell? ⟨Ga, 3, none⟩ = some (.int .i64 xm) := hb9.cell 3
                  have j4 : wb.cell? ⟨Ga, 4, none⟩ = some (.string ⟨xs.toArray⟩) := hb9.cell 4
                  have HB9 := Lib.hid hb9
                  have HF9 := Lib.hid hf'
                  clear hb9 hf'
                  go_upto_region 22 with fail
                  have hf3 : Frm [G2] wb (((((wb.setCell ⟨G2, 0, none⟩ (.int .i64 (r.room : Int))).setCell ⟨G2, 1, none⟩ (.int .u32 (r.put M xs).next)).setCell ⟨G2, 2, none⟩ (.string ⟨(r.put M xs).ready.toArray⟩)).setCell ⟨G2, 3, none⟩ (.slice A' N' cap')).alloc (.cells #[.int .i64 (r.room : Int), .int .u32 (r.put M xs).next, .string ⟨(r.put M xs).ready.toArray⟩, (.slice A' N' cap')] 39)) :=
                    (((((Frm.refl _ _).setCell (.inl (by simp)) _).setCell (.inl (by simp)) _).setCell (.inl (by simp)) _).setCell (.inl (by simp)) _).alloc _
                  have hb3 : Blk (((((wb.setCell ⟨G2, 0, none⟩ (.int .i64 (r.room : Int))).setCell ⟨G2, 1, none⟩ (.int .u32 (r.put M xs).next)).setCell ⟨G2, 2, none⟩ (.string ⟨(r.put M xs).ready.toArray⟩)).setCell ⟨G2, 3, none⟩ (.slice A' N' cap')).alloc (.cells #[.int .i64 (r.room : Int), .int .u32 (r.put M xs).next, .string ⟨(r.put M xs).ready.toArray⟩, (.slice A' N' cap')] 39)) G2 39 (refC (r.room : Int) (r.put M xs).next (r.put M xs).ready (.slice A' N' cap')) :=
                    ((((((HPS.out.frm_ HF9.out).rf.set_ 0 _).set_ 1 _).set_ 2 _).set_ 3 _).as_ rfl).alloc _
                  refine wp_world (fun w3 => Frm [G2] wb w3 ∧ Blk w3 G2 39 (refC (r.room : Int) (r.put M xs).next (r.put M xs).ready (.slice A' N' cap'))) ⟨hf3, hb3⟩ ?_
                  clear hf3 hb3 hl9 m0 m1 m2 m3 g0 g1 g2 g3 j3 j4 k0 k1 k2 k3 f0 f1 f2 f3 hl2
                  rintro w3 ⟨hf3, hb3⟩
                  have hb9 := HB9.out.frm hf3 (by simpa using hne9)
                  have j3 : w3.cell? ⟨Ga, 3, none⟩ = some (.int .i64 xm) := hb9.cell 3
                  have j4 : w3.cell? ⟨Ga, 4, none⟩ = some (.string ⟨xs.toArray⟩) := hb9.cell 4
                  clear hb9
                  obtain ⟨hrb, hB3⟩ := HPS.out.mid HF9.out hf3
                  go_wp2_with fail
                  refine (rput_in M xs _ HSM.out HPS.out.rr.ok hB3 hrb).mono ?_
                  rintro e w4 ⟨rfl, rv', hin', hf4, -⟩
                  go_wp2_with fail
                  go_meet
                  exact ⟨_, _, _, _, _, _, HPS.out.next HF9.out HO2.out hf3 (by rw [put_room]; exact hb3) hf4 (fun i hi => by simpa [fp] using hi) hin' HRR.out (by rw [put_room]; exact hsm)⟩

                · have t0 : (xd == 0) = false := by simpa using h0
                  by_cases h1 : xd = 1
                  · have t1 : (xd == 1) = true := by simpa using h1
                    clear h0 h1
                    obtain ⟨A', N', cap', hv'⟩ : ∃ A N cap, v = .slice A N cap := by obtain ⟨A, cap, h, -⟩ := HPS.out.own.form; exact ⟨A, _, cap, h⟩
                    subst hv'
                    go_wp2_with fail
                    refine (rread12_any (r.room : Int) r.next xm r.ready A' N' cap' (r.take xm) _ (by have := HH2.out; omega) rfl).mono ?_
                    rintro e wb ⟨rfl, hf'⟩
                    obtain ⟨m0, m1, m2, m3, g0, g1, g2, g3, hl9⟩ := (HPS.out.frm_ hf').rules
                    have hb9 := HBA.out.frm hf' (by simp)
                    have j3 : wb.cell? ⟨Ga, 3, none⟩ = some (.int .i64 xm) := hb9.cell 3
                    have j4 : wb.cell? ⟨Ga, 4, none⟩ = some (.string ⟨xs.toArray⟩) := hb9.cell 4
                    have HB9 := Lib.hid hb9
                    have HF9 := Lib.hid hf'
                    clear hb9 hf'
                    go_upto_region 27 with fail
                    have hf3 : Frm [G2] wb (((((wb.setCell ⟨G2, 0, none⟩ (.int .i64 (r.room : Int))).setCell ⟨G2, 1, none⟩ (.int .u32 r.next)).setCell ⟨G2, 2, none⟩ (.string ⟨(r.ready.drop (r.take xm)).toArray⟩)).setCell ⟨G2, 3, none⟩ (.slice A' N' cap')).alloc (.cells #[.int .i64 (r.room : Int), .int .u32 r.next, .string ⟨(r.ready.drop (r.take xm)).toArray⟩, (.slice A' N' cap')] 39)) :=
                      (((((Frm.refl _ _).setCell (.inl (by simp)) _).setCell (.inl (by simp)) _).setCell (.inl (by simp)) _).setCell (.inl (by simp)) _).alloc _
                    have hb3 : Blk (((((wb.setCell ⟨G2, 0, none⟩ (.int .i64 (r.room : Int))).setCell ⟨G2, 1, none⟩ (.int .u32 r.next)).setCell ⟨G2, 2, none⟩ (.string ⟨(r.ready.drop (r.take xm)).toArray⟩)).setCell ⟨G2, 3, none⟩ (.slice A' N' cap')).alloc (.cells #[.int .i64 (r.room : Int), .int .u32 r.next, .string ⟨(r.ready.drop (r.take xm)).toArray⟩, (.slice A' N' cap')] 39)) G2 39 (refC (r.room : Int) r.next (r.ready.drop (r.take xm)) (.slice A' N' cap')) :=
                      ((((((HPS.out.frm_ HF9.out).rf.set_ 0 _).set_ 1 _).set_ 2 _).set_ 3 _).as_ rfl).alloc _
                    refine wp_world (fun w3 => Frm [G2] wb w3 ∧ Blk w3 G2 39 (refC (r.room : Int) r.next (r.ready.drop (r.take xm)) (.slice A' N' cap'))) ⟨hf3, hb3⟩ ?_
                    clear hf3 hb3 hl9 m0 m1 m2 m3 g0 g1 g2 g3 j3 j4 k0 k1 k2 k3 f0 f1 f2 f3 hl2
                    rintro w3 ⟨hf3, hb3⟩
                    have hb9 := HB9.out.frm hf3 (by simpa using hne9)
                    have j3 : w3.cell? ⟨Ga, 3, none⟩ = some (.int .i64 xm) := hb9.cell 3
                    have j4 : w3.cell? ⟨Ga, 4, none⟩ = some (.string ⟨xs.toArray⟩) := hb9.cell 4
                    clear hb9
                    obtain ⟨hrb, hB3⟩ := HPS.out.mid HF9.out hf3
                    go_wp2_with fail
                    refine (rread_in xm _ HPS.out.rr.ok hB3 hrb).mono ?_
                    rintro e w4 ⟨rfl, rv', hin', hf4, -⟩
                    go_wp2_with fail
                    go_meet
                    exact ⟨_, _, _, _, _, _, HPS.out.next (r' := r.read xm) HF9.out (HPS.out.own.frm HF9.out) hf3 hb3 hf4 (fun i hi => .inl (by simpa using hi)) hin' (HPS.out.rr.read xm) hsm⟩

                  · have t1 : (xd == 1) = false := by simpa using h1
                    clear h0 h1
                    go_wp2_with fail
                    go_meet
                    exact ⟨_, _, _, _, _, _, HPS.out⟩
              case rest =>
                clear k0 k1 k2 k3 f0 f1 f2 f3 hl2 b0 b3 b4 hne9 HPS HBA HH1 HH2 hsm
                obtain ⟨gd, gh, rv, r, v, h, hps⟩ := hcut
                obtain ⟨A, N, cap, hv, hN⟩ : ∃ A N cap, v = .slice A N cap ∧ h.length = N := by obtain ⟨A, cap, h, -⟩ := hps.own.form; exact ⟨A, _, cap, h, rfl⟩
                subst hv
                obtain ⟨hh1, hh2, hh3, hh4⟩ := hps.hlen
                rw [hN] at hh3
                have HHE := Lib.hid hh3
                have HWI := Lib.hid hh4
                have hr9 : (r.room : Int) ≤ 1000000 := by have := hps.small; omega
                have hr8 : r.ready.length ≤ 1000000 := by omega
                have HR9 := Lib.hid hr9
                have HR8 := Lib.hid hr8
                have hrl : (ByteArray.mk r.ready.toArray).size = r.ready.length := by simp [ByteArray.size]
                clear hh1 hh2 hh3 hh4 hr9 hr8 hN
                go_upto_region 29 with fail
                have HS : ∀ w', PQ w w' B G1 G2 gd gh rv r (.slice A N cap) h → (fun w' => w'.cell? ⟨G2, 0, none⟩ = some (.int .i64 (r.room : Int)) ∧ w'.cell? ⟨G2, 1, none⟩ = some (.int .u32 r.next) ∧ w'.cell? ⟨G2, 2, none⟩ = some (.string ⟨r.ready.toArray⟩) ∧ w'.cell? ⟨G2, 3, none⟩ = some (.slice A N cap) ∧ PQ w w' B G1 G2 gd gh rv r (.slice A N cap) h) w' := fun w' h => ⟨h.rules.1, h.rules.2.1, h.rules.2.2.1, h.rules.2.2.2.1, h⟩
                have HS0 := Lib.hid HS
                have HP0 := Lib.hid hps
                have hnow : PQ w wc.drew B G1 G2 gd gh rv r (.slice A N cap) h := hps.frm_ (Frm.drew (Frm.refl [] _))
                clear HS hps
                go_region_held3 (fun w' => w'.cell? ⟨G2, 0, none⟩ = some (.int .i64 (r.room : Int)) ∧ w'.cell? ⟨G2, 1, none⟩ = some (.int .u32 r.next) ∧ w'.cell? ⟨G2, 2, none⟩ = some (.string ⟨r.ready.toArray⟩) ∧ w'.cell? ⟨G2, 3, none⟩ = some (.slice A N cap) ∧ PQ w w' B G1 G2 gd gh rv r (.slice A N cap) h)
                  (exact HS0.out _ hnow)
                  (first
                    | (go_at_call 13; refine (rready_in _ HP0.out.rr.ok hnow.rb).mono ?_; rintro e' wb ⟨rfl, rfl⟩)
                    | (go_at_call 11; refine (rheld_in _ HP0.out.rr.ok hnow.rb).mono ?_; rw [HHE.out]; rintro e' wb ⟨rfl, rfl⟩)
                    | (go_at_call 14; refine (rnext_in _ HP0.out.rr.ok hnow.rb).mono ?_; rintro e' wb ⟨rfl, rfl⟩)
                    | (go_at_call 15; refine (rwindow_in _ HP0.out.rr.ok hnow.rb).mono ?_; rintro e' wb ⟨rfl, hdr⟩; have hfa := hdr.frm; have hnow : PQ w wb B G1 G2 gd gh rv r (.slice A N cap) h := hnow.frm_ hfa)
                    | (go_at_call 19; refine (rwin_any (r.room : Int) r.next r.ready (.slice A N cap) _ (by omega) HR9.out HR8.out).mono ?_; rw [HWI.out]; rintro e' wb ⟨rfl, hfa⟩; have hnow : PQ w wb B G1 G2 gd gh rv r (.slice A N cap) h := hnow.frm_ hfa))
                go_wp2_with fail
                go_roundg (len2 - (k + 1))
                case measure => exact meas_lt hgk hlt
                case rel => exact ⟨k + 1, _, _, _, _, _, _, by omega, rfl, by go_num, hnow⟩
          · obtain rfl : k = len2 := by omega
            go_wp2_with fail
            go_ret
            exact ⟨rfl, hps.frm.below (Nat.le_refl _) (by simp)⟩
  · clear hB w2
    go_wp2_with fail
    go_ret
    exact ⟨rfl, hf1.below (Nat.le_refl _) (by simp)⟩

set_option maxRecDepth 100000 in
theorem lifted (os : Os) (started : os.Started) (H : Type) (enc : TypeId × Value → H) :
    ReturnsInHanded {} Try.checked os 5 .any (Rows.rbufPlaysSpec.pre6 enc Try.prog Try.f5 Rows.rbufPlaysRow.domain false) (Rows.rbufPlaysSpec.post enc Try.prog Try.f5 false true false false) := by
  refine returnsInHanded_of_change (C := Try.checked) own started (by kernel_rfl) Try.func5
    (ChangeSpec.witness6 (enc := enc) (C := Try.checked) false ⟨#[], #[.int .u32 0, .int .i64 0, .slice none 0 0], []⟩ 8 (by kernel_rfl) (by kernel_rfl) (by kernel_rfl) (by kernel_rfl)) ?_
  intro W base args ds gs before hval0 hW hcnd _
  have hval : ∀ (j : Nat) t v, Try.f5.params[j]? = some t → args[j]? = some v → Value.okWide Try.prog W .any base t v := hval0
  have hW' := hW
  obtain ⟨p, q, hA0, hV, rfl, hfz, hnd⟩ := hW
  have hA : DataW.TrodAll enc Try.prog W 0 (fun _ => true) true Try.f5.params.toList args.toList ds p := hA0
  rw [Try.params5] at hA hval
  obtain ⟨v0, vs0, d0, ds0, p0, q0, hargs, rfl, rfl, h0, r0⟩ := trodAll_cons hA
  obtain ⟨v1, vs1, d1, ds1, p1, q1, rfl, rfl, rfl, h1, r1⟩ := trodAll_cons r0
  obtain ⟨v2, vs2, d2, ds2, p2, q2, rfl, rfl, rfl, h2, r2⟩ := trodAll_cons r1
  obtain ⟨rfl, rfl, rfl⟩ := trodAll_nil r2
  obtain rfl : args = #[v0, v1, v2] := by cases args; simp_all
  obtain ⟨rfl, rfl⟩ := trodVars_none hV
  obtain ⟨a0, rfl, rfl, rfl, w0⟩ := open_int Try.underlying22 (hval 0 22 v0 rfl rfl) h0
  obtain ⟨a1, rfl, rfl, rfl, w1⟩ := open_int Try.underlying3 (hval 1 3 v1 rfl rfl) h1
  obtain ⟨a2, len2, cap2, rfl⟩ := okWide_slice Try.underlying35 (hval 2 35 v2 rfl rfl)
  have k2 := h2
  have lt2 : ∀ x ∈ p2, x.block < W.heap.size := by obtain ⟨m, hm⟩ := k2; exact DataW.trod_lt m _ _ _ hm
  obtain ⟨z2, w2⟩ := acts_open h2
  clear hA0 hval0
  refine (walk a0 a1 a2 len2 cap2 W w0 w1 z2 w2).mono fun e W' ⟨he, bel⟩ => ?_
  subst he
  exact ⟨_, rfl, _, _, _, [], _, [], hW', trodAll_mk1 (shut_bool Try.underlying4 _), (trodAll_cons_mk (shut_int Try.underlying22 w0) (trodAll_cons_mk (shut_int Try.underlying3 w1) (trodAll_cons_mk (Below.trod laidOut (by kernel_rfl) (of_decide_eq_true (by kernel_rfl)) k2 bel lt2) trodAll_mk0))), rfl, bel.frame _, fun h => by cases h⟩

theorem over : Rows.rbufPlaysRow.holds Try.pinned (OpenSpec.ofChange Rows.rbufPlaysSpec) :=
  OpenClaim.holds_of_wide 5 Try.f5 rfl rfl rfl rfl rfl rfl rfl ⟨rfl, rfl, rfl, rfl, rfl⟩ rfl rfl rfl rfl rfl (by kernel_rfl) Try.func5 (by kernel_rfl)
    (of_decide_eq_true (by kernel_rfl)) (by unfold Func.isWrapper; first | (rw [if_pos (by decide +kernel)]; kernel_rfl) | (rw [if_neg (by decide +kernel)]; exact ⟨rfl, rfl⟩))
    (fun os started H enc _ => lifted os started H enc)

theorem proved : Rows.RbufPlaysSaid := over
#print axioms proved
end Go.Proofs.Ytjfamjaebehieaa.rbufPlays
